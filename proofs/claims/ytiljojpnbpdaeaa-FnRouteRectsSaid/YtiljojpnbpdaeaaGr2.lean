/- Plain laws: sets of unit cells (grids), the region of a set (its maximal runs, row by row, equal rows joined). No condition. -/
import Derived.Test.YtiljojpnbpdaeaaLib
namespace Go.Proofs.Ytiljojpnbpdaeaa
open Go.RowKit

instance decQ4 : DecidableEq Q4 := fun x y => decidable_of_iff (x.a = y.a ∧ x.b = y.b ∧ x.c = y.c ∧ x.d = y.d) ⟨fun h => by cases x; cases y; simp_all, fun h => by subst h; simp⟩

/-- A set of unit cells: 80 rows of 80. -/
abbrev Grid := Nat → Bool
def gcells (g : Grid) : List Value := (List.range 6400).map fun i => .bool (g i)
theorem gcells_len (g : Grid) : (gcells g).length = 6400 := by simp [gcells]
theorem gcells_get (g : Grid) {i : Nat} (h : i < 6400) : (gcells g)[i]? = some (.bool (g i)) := by
  rw [gcells, List.getElem?_map, List.getElem?_range h]; rfl
theorem gcells_ext {g g' : Grid} (h : ∀ i, i < 6400 → g i = g' i) : gcells g = gcells g' :=
  List.map_congr_left fun i hi => by rw [h i (List.mem_range.1 hi)]
def gset (g : Grid) (k : Nat) (b : Bool) : Grid := fun i => if i = k then b else g i
theorem gcells_set (g : Grid) (k : Nat) (b : Bool) : (gcells g).set k (.bool b) = gcells (gset g k b) := by
  apply List.ext_getElem?
  intro i
  rw [List.getElem?_set]
  by_cases hi : i < 6400
  · rw [gcells_get _ hi, gcells_get _ hi, gcells_len]
    by_cases hk : k = i
    · subst hk; simp [gset, hi]
    · rw [if_neg hk, gset, if_neg (fun h => hk h.symm)]
  · rw [gcells, gcells]
    simp only [List.getElem?_map, List.getElem?_eq_none (show (List.range 6400).length ≤ i by simp; omega), Option.map_none]
    split
    · rename_i h; subst h; simp; omega
    · rfl
def gnone : Grid := fun _ => false
theorem gcells_none : gcells gnone = List.replicate 6400 (.bool false) := by
  apply List.ext_getElem?
  intro i
  by_cases hi : i < 6400
  · rw [gcells_get _ hi, List.getElem?_replicate, if_pos hi]; rfl
  · rw [List.getElem?_eq_none (by rw [gcells_len]; omega), List.getElem?_eq_none (by rw [List.length_replicate]; omega)]

/-- Where the unit cell (x, y) stands. -/
def atG (x y : Int) : Nat := ((y + 40) * 80 + x + 40).toNat
/-- A unit cell of the chip. -/
def onC (x y : Int) : Bool := decide (-40 ≤ x ∧ x ≤ 39) && decide (-40 ≤ y ∧ y ≤ 39)
theorem onC_iff {x y : Int} : onC x y = true ↔ (-40 ≤ x ∧ x ≤ 39) ∧ (-40 ≤ y ∧ y ≤ 39) := by simp [onC]
def gh (g : Grid) (x y : Int) : Bool := onC x y && g (atG x y)
theorem gh_on {g : Grid} {x y : Int} (h : onC x y = true) : gh g x y = g (atG x y) := by rw [gh, h, Bool.true_and]
theorem gh_off {g : Grid} {x y : Int} (h : onC x y = false) : gh g x y = false := by rw [gh, h, Bool.false_and]
def xOf (i : Nat) : Int := ((i % 80 : Nat) : Int) - 40
def yOf (i : Nat) : Int := ((i / 80 : Nat) : Int) - 40
theorem atG_lt {x y : Int} (h : onC x y = true) : atG x y < 6400 := by rw [onC_iff] at h; unfold atG; omega
theorem at_of (i : Nat) : atG (xOf i) (yOf i) = i := by unfold atG xOf yOf; omega
theorem on_of {i : Nat} (h : i < 6400) : onC (xOf i) (yOf i) = true := by rw [onC_iff]; unfold xOf yOf; omega
theorem xOf_at {x y : Int} (h : onC x y = true) : xOf (atG x y) = x := by rw [onC_iff] at h; unfold xOf atG; omega
theorem yOf_at {x y : Int} (h : onC x y = true) : yOf (atG x y) = y := by rw [onC_iff] at h; unfold yOf atG; omega
theorem gh_of {g : Grid} {i : Nat} (h : i < 6400) : gh g (xOf i) (yOf i) = g i := by rw [gh_on (on_of h), at_of]
theorem atG_inj {x y u v : Int} (h : onC x y = true) (k : onC u v = true) (e : atG x y = atG u v) : x = u ∧ y = v := by
  rw [onC_iff] at h k; unfold atG at e; omega
theorem gcells_gh {g g' : Grid} (h : ∀ x y, onC x y = true → gh g x y = gh g' x y) : gcells g = gcells g' :=
  gcells_ext fun i hi => by have := h _ _ (on_of hi); rwa [gh_of hi, gh_of hi] at this
theorem gh_gset {g : Grid} {x y u v : Int} (b : Bool) (h : onC u v = true) : gh (gset g (atG u v) b) x y = if x = u ∧ y = v then b else gh g x y := by
  by_cases hc : onC x y = true
  · rw [gh_on hc, gset]
    by_cases he : x = u ∧ y = v
    · obtain ⟨rfl, rfl⟩ := he; simp
    · rw [if_neg he, if_neg (fun e => he (atG_inj hc h e)), gh_on hc]
  · rw [Bool.not_eq_true] at hc
    rw [gh_off hc, gh_off hc]
    split
    · rename_i h2; obtain ⟨rfl, rfl⟩ := h2; rw [h] at hc; cases hc
    · rfl
/-- Made from what it says of each unit cell. -/
def gmk (f : Int → Int → Bool) : Grid := fun i => f (xOf i) (yOf i)
theorem gh_gmk (f : Int → Int → Bool) {x y : Int} (h : onC x y = true) : gh (gmk f) x y = f x y := by rw [gh_on h, gmk, xOf_at h, yOf_at h]
theorem gmk_at (f : Int → Int → Bool) {x y : Int} (h : onC x y = true) : gmk f (atG x y) = f x y := by rw [gmk, xOf_at h, yOf_at h]
theorem gset_gmk {f f' : Int → Int → Bool} {u v : Int} (b : Bool) (h : onC u v = true) (hf : ∀ x y, onC x y = true → f' x y = if x = u ∧ y = v then b else f x y) : gcells (gset (gmk f) (atG u v) b) = gcells (gmk f') := by
  apply gcells_gh
  intro x y hc
  rw [gh_gset b h, gh_gmk _ hc, gh_gmk _ hc, hf x y hc]
theorem gmk_ext {f f' : Int → Int → Bool} (h : ∀ x y, onC x y = true → f x y = f' x y) : gcells (gmk f) = gcells (gmk f') :=
  gcells_gh fun x y hc => by rw [gh_gmk _ hc, gh_gmk _ hc, h x y hc]

/-- A unit cell of a rectangle. -/
def inR (r : Q4) (x y : Int) : Bool := decide (r.a ≤ x ∧ x < r.c) && decide (r.b ≤ y ∧ y < r.d)
theorem inR_iff {r : Q4} {x y : Int} : inR r x y = true ↔ (r.a ≤ x ∧ x < r.c) ∧ (r.b ≤ y ∧ y < r.d) := by simp [inR]
/-- A valid rectangle. -/
def vR (r : Q4) : Bool := (decide (-40 ≤ r.a) && decide (r.a < r.c) && decide (r.c ≤ 40)) && (decide (-40 ≤ r.b) && decide (r.b < r.d) && decide (r.d ≤ 40))
theorem vR_iff {r : Q4} : vR r = true ↔ (-40 ≤ r.a ∧ r.a < r.c ∧ r.c ≤ 40) ∧ (-40 ≤ r.b ∧ r.b < r.d ∧ r.d ≤ 40) := by
  simp [vR, and_assoc]
theorem inR_on {r : Q4} {x y : Int} (hv : vR r = true) (h : inR r x y = true) : onC x y = true := by rw [vR_iff] at hv; rw [inR_iff] at h; rw [onC_iff]; omega
/-- The unit cells of a list of rectangles. -/
def inL (l : List Q4) (x y : Int) : Bool := l.any fun r => inR r x y
def gL (l : List Q4) : Grid := gmk (inL l)
/-- f, and a rectangle as far as (x, y), row by row. -/
def part (f : Int → Int → Bool) (r : Q4) (u v : Int) : Int → Int → Bool := fun x y => f x y || (inR r x y && (decide (y < v) || (decide (y = v) && decide (x < u))))
theorem part_set (f : Int → Int → Bool) (r : Q4) {u v : Int} (h : onC u v = true) (hr : inR r u v = true) : gcells (gset (gmk (part f r u v)) (atG u v) true) = gcells (gmk (part f r (u + 1) v)) := by
  refine gset_gmk _ h fun x y _ => ?_
  rw [part, part]
  by_cases he : x = u ∧ y = v
  · obtain ⟨rfl, rfl⟩ := he
    rw [if_pos ⟨rfl, rfl⟩, hr]
    simp [Int.lt_succ]
  · rw [if_neg he]
    congr 2
    rw [Bool.eq_iff_iff]
    simp
    omega
theorem part_row (f : Int → Int → Bool) (r : Q4) {u u' v : Int} (h : ∀ x, onC x v = true → inR r x v = true → x < u) (h' : ∀ x, onC x (v + 1) = true → inR r x (v + 1) = true → u' ≤ x) : gcells (gmk (part f r u v)) = gcells (gmk (part f r u' (v + 1))) := by
  refine gmk_ext fun x y hc => ?_
  rw [part, part]
  congr 1
  by_cases hr : inR r x y = true
  · rw [hr, Bool.true_and, Bool.true_and, Bool.eq_iff_iff]
    simp
    constructor
    · rintro (h1 | ⟨rfl, h2⟩)
      · left; omega
      · left; omega
    · rintro (h1 | ⟨rfl, h2⟩)
      · by_cases h3 : y = v
        · subst h3; exact Or.inr ⟨rfl, h x hc hr⟩
        · left; omega
      · have := h' x hc hr; omega
  · rw [Bool.not_eq_true] at hr; rw [hr]; rfl
theorem part_start (f : Int → Int → Bool) (r : Q4) {u v : Int} (h : ∀ x y, onC x y = true → inR r x y = true → v ≤ y ∧ (y = v → u ≤ x)) : gcells (gmk f) = gcells (gmk (part f r u v)) := by
  refine gmk_ext fun x y hc => ?_
  rw [part]
  by_cases hr : inR r x y = true
  · obtain ⟨h1, h2⟩ := h x y hc hr
    have : (decide (y < v) || (decide (y = v) && decide (x < u))) = false := by
      rw [Bool.or_eq_false_iff, Bool.and_eq_false_iff]
      refine ⟨by simpa using h1, ?_⟩
      by_cases he : y = v
      · right; simpa using h2 he
      · left; simpa using he
    rw [this, Bool.and_false, Bool.or_false]
  · rw [Bool.not_eq_true] at hr; rw [hr]; simp
theorem part_end (f : Int → Int → Bool) (r : Q4) {u v : Int} (h : ∀ x y, onC x y = true → inR r x y = true → y < v) : gcells (gmk (part f r u v)) = gcells (gmk (fun x y => f x y || inR r x y)) := by
  refine gmk_ext fun x y hc => ?_
  rw [part]
  by_cases hr : inR r x y = true
  · have := h x y hc hr
    simp [hr, this]
  · rw [Bool.not_eq_true] at hr; rw [hr]; simp
theorem inL_snoc {l : List Q4} {k : Nat} {r : Q4} (h : l[k]? = some r) : (fun x y => inL (l.take k) x y || inR r x y) = inL (l.take (k + 1)) := by
  funext x y
  rw [take_snoc h, inL, inL, List.any_append]; simp
theorem inL_nil : gcells gnone = gcells (gmk (inL [])) := gcells_ext fun _ _ => rfl

/-- The columns at which a row changes, from x on. -/
def chg (g : Grid) (y : Int) (x : Int) : List Int :=
  if _h : x ≤ 40 then (if gh g x y != gh g (x - 1) y then x :: chg g y (x + 1) else chg g y (x + 1)) else []
termination_by (41 - x).toNat
def runs (g : Grid) (y : Int) : List Int := chg g y (-40)
def pairs : List Int → List (Int × Int)
  | a :: b :: l => (a, b) :: pairs l
  | _ => []
/-- The row at which equal rows end, from e on. -/
def rowEnd (g : Grid) (y e : Int) : Int := if _h : e < 40 then (if runs g e = runs g y then rowEnd g y (e + 1) else e) else e
termination_by (40 - e).toNat
theorem rowEnd_ge (g : Grid) (y e : Int) : e ≤ rowEnd g y e := by
  rw [rowEnd]
  split
  · split
    · have := rowEnd_ge g y (e + 1); omega
    · omega
  · omega
termination_by (40 - e).toNat
theorem rowEnd_le (g : Grid) (y e : Int) (h : e ≤ 40) : rowEnd g y e ≤ 40 := by
  rw [rowEnd]
  split
  · split
    · exact rowEnd_le g y (e + 1) (by omega)
    · omega
  · omega
termination_by (40 - e).toNat
/-- The rectangles of one band of equal rows. -/
def band (g : Grid) (y : Int) : List Q4 := (pairs (runs g y)).map fun p => ⟨p.1, y, p.2, rowEnd g y (y + 1)⟩
def canonY (g : Grid) (y : Int) : List Q4 := if _h : y < 40 then band g y ++ canonY g (rowEnd g y (y + 1)) else []
termination_by (40 - y).toNat
decreasing_by have := rowEnd_ge g y (y + 1); omega
/-- The region of a set. -/
def canon (g : Grid) : List Q4 := canonY g (-40)
theorem rowEnd_same {g : Grid} {y e : Int} (h : e < 40) (hr : runs g e = runs g y) : rowEnd g y e = rowEnd g y (e + 1) := by
  rw [rowEnd, dif_pos h, if_pos hr]
theorem rowEnd_stop {g : Grid} {y e : Int} (h : 40 ≤ e ∨ runs g e ≠ runs g y) : rowEnd g y e = e := by
  rw [rowEnd]
  split
  · rcases h with h | h
    · omega
    · rw [if_neg h]
  · rfl
theorem canonY_step {g : Grid} {y : Int} (h : y < 40) : canonY g y = band g y ++ canonY g (rowEnd g y (y + 1)) := by rw [canonY, dif_pos h]
theorem canonY_stop {g : Grid} {y : Int} (h : 40 ≤ y) : canonY g y = [] := by rw [canonY, dif_neg (by omega)]
theorem chg_hit {g : Grid} {y x : Int} (h : x ≤ 40) (hd : gh g x y ≠ gh g (x - 1) y) : chg g y x = x :: chg g y (x + 1) := by
  rw [chg, dif_pos h, if_pos (by simpa using hd)]
theorem chg_miss {g : Grid} {y x : Int} (hd : gh g x y = gh g (x - 1) y) : chg g y x = chg g y (x + 1) := by
  by_cases h : x ≤ 40
  · rw [chg, dif_pos h, if_neg (by simpa using hd)]
  · rw [chg, dif_neg h, chg, dif_neg (by omega)]
theorem chg_stop {g : Grid} {y x : Int} (h : 40 < x) : chg g y x = [] := by rw [chg, dif_neg (by omega)]
theorem chg_mem (g : Grid) (y x : Int) : ∀ z, z ∈ chg g y x ↔ x ≤ z ∧ z ≤ 40 ∧ gh g z y ≠ gh g (z - 1) y := by
  intro z
  by_cases h : x ≤ 40
  · by_cases hd : gh g x y = gh g (x - 1) y
    · rw [chg_miss hd, chg_mem g y (x + 1) z]
      constructor
      · rintro ⟨h1, h2, h3⟩; exact ⟨by omega, h2, h3⟩
      · rintro ⟨h1, h2, h3⟩
        refine ⟨?_, h2, h3⟩
        by_cases he : z = x
        · subst he; exact absurd hd h3
        · omega
    · rw [chg_hit h hd, List.mem_cons, chg_mem g y (x + 1) z]
      constructor
      · rintro (rfl | ⟨h1, h2, h3⟩)
        · exact ⟨by omega, h, hd⟩
        · exact ⟨by omega, h2, h3⟩
      · rintro ⟨h1, h2, h3⟩
        by_cases he : z = x
        · exact Or.inl he
        · exact Or.inr ⟨by omega, h2, h3⟩
  · rw [chg_stop (by omega)]
    simp; omega
termination_by (41 - x).toNat
/-- Rows with equal changes are equal. -/
theorem runs_inj {g : Grid} {y y' : Int} : runs g y = runs g y' ↔ ∀ x, gh g x y = gh g x y' := by
  constructor
  · intro h x
    have key : ∀ n : Nat, gh g ((n : Int) - 41) y = gh g ((n : Int) - 41) y' := by
      intro n
      induction n with
      | zero => rw [gh_off, gh_off] <;> simp [onC]
      | succ n ih =>
        have e : (((n + 1 : Nat) : Int) - 41) - 1 = (n : Int) - 41 := by omega
        by_cases h40 : ((n + 1 : Nat) : Int) - 41 ≤ 40
        · have h1 := chg_mem g y (-40) (((n + 1 : Nat) : Int) - 41)
          have h2 := chg_mem g y' (-40) (((n + 1 : Nat) : Int) - 41)
          rw [runs, runs] at h
          rw [h, h2, e, ih] at h1
          have h3 : (gh g (((n + 1 : Nat) : Int) - 41) y' ≠ gh g ((n : Int) - 41) y') ↔ gh g (((n + 1 : Nat) : Int) - 41) y ≠ gh g ((n : Int) - 41) y' := by
            constructor
            · intro h4; exact (h1.1 ⟨by omega, h40, h4⟩).2.2
            · intro h4; exact (h1.2 ⟨by omega, h40, h4⟩).2.2
          revert h3
          cases gh g (((n + 1 : Nat) : Int) - 41) y' <;> cases gh g (((n + 1 : Nat) : Int) - 41) y <;> cases gh g ((n : Int) - 41) y' <;> simp
        · rw [gh_off, gh_off]
          · rw [onC, Bool.and_eq_false_iff]; left; simp; omega
          · rw [onC, Bool.and_eq_false_iff]; left; simp; omega
    by_cases hx : -41 ≤ x
    · have := key (x + 41).toNat
      rwa [show (((x + 41).toNat : Nat) : Int) - 41 = x by omega] at this
    · rw [gh_off, gh_off]
      · rw [onC, Bool.and_eq_false_iff]; left; simp; omega
      · rw [onC, Bool.and_eq_false_iff]; left; simp; omega
  · intro h
    have key : ∀ x, chg g y x = chg g y' x := by
      intro x
      by_cases hx : x ≤ 40
      · have ih : ∀ n : Nat, ∀ x : Int, (41 - x).toNat ≤ n → chg g y x = chg g y' x := by
          intro n
          induction n with
          | zero => intro x hx; rw [chg_stop (by omega), chg_stop (by omega)]
          | succ n ih =>
            intro x hx
            by_cases hx4 : x ≤ 40
            · by_cases hd : gh g x y = gh g (x - 1) y
              · rw [chg_miss hd, chg_miss (x := x) (y := y') (by rw [← h x, ← h (x - 1), hd]), ih (x + 1) (by omega)]
              · rw [chg_hit hx4 hd, chg_hit hx4 (by rw [← h x, ← h (x - 1)]; exact hd), ih (x + 1) (by omega)]
            · rw [chg_stop (by omega), chg_stop (by omega)]
        exact ih _ x (Nat.le_refl _)
      · rw [chg_stop (by omega), chg_stop (by omega)]
    exact key _
end Go.Proofs.Ytiljojpnbpdaeaa
/- Plain laws: the region of a set is a list of valid rectangles that has just the set's unit cells, at most 3200 of them, of at most 6400 unit cells in all. No condition. -/
namespace Go.Proofs.Ytiljojpnbpdaeaa

theorem ltge (a b : Int) : a < b ∨ b ≤ a := by omega
/-- An increasing list, from lo to 40. -/
def Inc : Int → List Int → Prop
  | _, [] => True
  | lo, a :: l => lo ≤ a ∧ a ≤ 40 ∧ Inc (a + 1) l
theorem Inc.mono {lo lo' : Int} {l : List Int} (h : Inc lo l) (hl : lo' ≤ lo) : Inc lo' l := by
  cases l with
  | nil => trivial
  | cons a l => exact ⟨by have := h.1; omega, h.2⟩
theorem chg_inc (g : Grid) (y : Int) : ∀ (n : Nat) (x : Int), (41 - x).toNat ≤ n → Inc x (chg g y x) := by
  intro n
  induction n with
  | zero => intro x hx; rw [chg_stop (by omega)]; trivial
  | succ n ih =>
    intro x hx
    by_cases h : x ≤ 40
    · by_cases hd : gh g x y = gh g (x - 1) y
      · rw [chg_miss hd]; exact (ih (x + 1) (by omega)).mono (by omega)
      · rw [chg_hit h hd]; exact ⟨by omega, h, ih (x + 1) (by omega)⟩
    · rw [chg_stop (by omega)]; trivial
theorem runs_inc (g : Grid) (y : Int) : Inc (-40) (runs g y) := chg_inc g y _ _ (Nat.le_refl _)
/-- The lengths of the runs. -/
def lens (l : List (Int × Int)) : Int := (l.map fun p => p.2 - p.1).sum
theorem lens_cons (p : Int × Int) (l : List (Int × Int)) : lens (p :: l) = p.2 - p.1 + lens l := by simp [lens]
theorem pairs_inc : ∀ (l : List Int) (lo : Int), Inc lo l → lo ≤ 41 → 0 ≤ lens (pairs l) ∧ (lens (pairs l) ≤ 41 - lo ∧ (lo ≤ 40 → lens (pairs l) ≤ 40 - lo)) ∧ ((pairs l).length : Int) * 2 ≤ 41 - lo ∧ ∀ p ∈ pairs l, lo ≤ p.1 ∧ p.1 < p.2 ∧ p.2 ≤ 40
  | [], lo, _, h => by simp [pairs, lens]; omega
  | [a], lo, _, h => by simp [pairs, lens]; omega
  | a :: b :: l, lo, hi, h => by
    obtain ⟨h1, h2, h3, h4, h5⟩ := hi
    obtain ⟨k1, k2, k3, k4⟩ := pairs_inc l (b + 1) h5 (by omega)
    rw [pairs, lens_cons]
    refine ⟨by simp only; omega, ⟨by simp only; omega, by simp only; omega⟩, by simp; omega, ?_⟩
    intro p hp
    rw [List.mem_cons] at hp
    rcases hp with rfl | hp
    · exact ⟨h1, by simp only; omega, h4⟩
    · have := k4 p hp; omega
theorem pairs_len : ∀ (l : List Int), (pairs l).length = l.length / 2
  | [] => rfl
  | [a] => by simp [pairs]
  | a :: b :: l => by rw [pairs, List.length_cons, pairs_len l]; simp; omega
theorem pairs_get : ∀ (l : List Int) (k : Nat) {a b : Int}, l[k * 2]? = some a → l[k * 2 + 1]? = some b → (pairs l)[k]? = some (a, b)
  | [], k, a, b, h, _ => by simp at h
  | [x], k, a, b, h, h' => by simp at h'
  | x :: y :: l, 0, a, b, h, h' => by simp at h h'; subst h h'; rfl
  | x :: y :: l, k + 1, a, b, h, h' => by
    rw [pairs, List.getElem?_cons_succ]
    apply pairs_get l k
    · rw [show (k + 1) * 2 = k * 2 + 1 + 1 by omega] at h; simpa using h
    · rw [show (k + 1) * 2 + 1 = k * 2 + 1 + 1 + 1 by omega] at h'; simpa using h'
/-- The area of a list. -/
def areaL (l : List Q4) : Int := (l.map fun r => (r.c - r.a) * (r.d - r.b)).sum
theorem areaL_nil : areaL [] = 0 := rfl
theorem areaL_cons (r : Q4) (l : List Q4) : areaL (r :: l) = (r.c - r.a) * (r.d - r.b) + areaL l := by simp [areaL]
theorem areaL_append (l m : List Q4) : areaL (l ++ m) = areaL l + areaL m := by
  induction l with
  | nil => simp [areaL_nil]
  | cons r l ih => rw [List.cons_append, areaL_cons, areaL_cons, ih]; omega
theorem area_mk (y e : Int) : ∀ l : List (Int × Int), areaL (l.map fun p => ⟨p.1, y, p.2, e⟩) = lens l * (e - y)
  | [] => by simp [areaL_nil, lens]
  | p :: l => by rw [List.map_cons, areaL_cons, area_mk y e l, lens_cons, Int.add_mul]
theorem canonY_area (g : Grid) : ∀ (n : Nat) (y : Int), (40 - y).toNat ≤ n → -40 ≤ y → y ≤ 40 → 0 ≤ areaL (canonY g y) ∧ areaL (canonY g y) ≤ 80 * (40 - y) := by
  intro n
  induction n with
  | zero => intro y hy _ _; rw [canonY_stop (by omega), areaL_nil]; omega
  | succ n ih =>
    intro y hy h1 h2
    by_cases h : y < 40
    · rw [canonY_step h, areaL_append, band, area_mk]
      have g1 := rowEnd_ge g y (y + 1)
      have g2 := rowEnd_le g y (y + 1) (by omega)
      obtain ⟨k1, k2⟩ := ih (rowEnd g y (y + 1)) (by omega) (by omega) g2
      obtain ⟨p1, ⟨-, p2⟩, -⟩ := pairs_inc (runs g y) (-40) (runs_inc g y) (by omega)
      replace p2 := p2 (by omega)
      have q1 := Int.mul_nonneg p1 (show 0 ≤ rowEnd g y (y + 1) - y by omega)
      have q2 := Int.mul_le_mul_of_nonneg_right p2 (show 0 ≤ rowEnd g y (y + 1) - y by omega)
      generalize lens (pairs (runs g y)) * (rowEnd g y (y + 1) - y) = M at *
      omega
    · rw [canonY_stop (by omega), areaL_nil]; omega
/-- Some run has the column. -/
def cov (l : List (Int × Int)) (z : Int) : Prop := ∃ p ∈ l, p.1 ≤ z ∧ z < p.2
theorem cov_nil (z : Int) : ¬ cov [] z := fun ⟨_, h, _⟩ => by cases h
theorem cov_cons (p : Int × Int) (l : List (Int × Int)) (z : Int) : cov (p :: l) z ↔ (p.1 ≤ z ∧ z < p.2) ∨ cov l z := by
  simp [cov]
theorem gh_big {g : Grid} {x y : Int} (h : 40 ≤ x) : gh g x y = false := gh_off (by rw [onC, Bool.and_eq_false_iff]; left; simp; omega)
theorem gh_small {g : Grid} {x y : Int} (h : x < -40) : gh g x y = false := gh_off (by rw [onC, Bool.and_eq_false_iff]; left; simp; omega)
theorem chg_cov (g : Grid) (y : Int) : ∀ (n : Nat) (x : Int), (41 - x).toNat ≤ n →
    (gh g (x - 1) y = false → ∀ z, cov (pairs (chg g y x)) z ↔ x ≤ z ∧ gh g z y = true) ∧
    (gh g (x - 1) y = true → ∀ a, a < x → ∀ z, cov (pairs (a :: chg g y x)) z ↔ (a ≤ z ∧ z < x) ∨ (x ≤ z ∧ gh g z y = true)) := by
  intro n
  induction n with
  | zero =>
    intro x hx
    refine ⟨fun _ z => ?_, fun h => ?_⟩
    · rw [chg_stop (by omega), pairs]
      · refine ⟨fun h => absurd h (cov_nil z), fun ⟨h1, h2⟩ => ?_⟩
        rw [gh_big (by omega)] at h2; cases h2
      · intro a b l h; cases h
    · rw [gh_big (by omega)] at h; cases h
  | succ n ih =>
    intro x hx
    obtain ⟨iA, iB⟩ := ih (x + 1) (by omega)
    rw [show x + 1 - 1 = x by omega] at iA iB
    cases hc : gh g x y with
    | false =>
      refine ⟨fun hp z => ?_, fun hp a ha z => ?_⟩
      · rw [chg_miss (by rw [hc, hp]), iA hc z]
        constructor
        · rintro ⟨h1, h2⟩; exact ⟨by omega, h2⟩
        · rintro ⟨h1, h2⟩
          refine ⟨?_, h2⟩
          by_cases he : z = x
          · subst he; rw [hc] at h2; cases h2
          · omega
      · have hx40 : x ≤ 40 := by
          rcases ltge 40 x with h | h
          · rw [gh_big (by omega)] at hp; cases hp
          · exact h
        rw [chg_hit hx40 (by rw [hc, hp]; simp), pairs, cov_cons, iA hc z]
        constructor
        · rintro (h | ⟨h1, h2⟩)
          · exact Or.inl h
          · exact Or.inr ⟨by omega, h2⟩
        · rintro (h | ⟨h1, h2⟩)
          · exact Or.inl h
          · refine Or.inr ⟨?_, h2⟩
            by_cases he : z = x
            · subst he; rw [hc] at h2; cases h2
            · omega
    | true =>
      have hx40 : x < 40 := by
        rcases ltge x 40 with h | h
        · exact h
        · rw [gh_big h] at hc; cases hc
      refine ⟨fun hp z => ?_, fun hp a ha z => ?_⟩
      · rw [chg_hit (by omega) (by rw [hc, hp]; simp), iB hc x (by omega) z]
        constructor
        · rintro (⟨h1, h2⟩ | ⟨h1, h2⟩)
          · have : z = x := by omega
            subst this; exact ⟨by omega, hc⟩
          · exact ⟨by omega, h2⟩
        · rintro ⟨h1, h2⟩
          by_cases he : z = x
          · left; omega
          · right; exact ⟨by omega, h2⟩
      · rw [chg_miss (by rw [hc, hp]), iB hc a (by omega) z]
        constructor
        · rintro (⟨h1, h2⟩ | ⟨h1, h2⟩)
          · by_cases he : z = x
            · subst he; right; exact ⟨by omega, hc⟩
            · left; omega
          · right; exact ⟨by omega, h2⟩
        · rintro (⟨h1, h2⟩ | ⟨h1, h2⟩)
          · left; omega
          · by_cases he : z = x
            · left; omega
            · right; exact ⟨by omega, h2⟩
theorem runs_cov (g : Grid) (y z : Int) : cov (pairs (runs g y)) z ↔ gh g z y = true := by
  rw [runs, (chg_cov g y _ (-40) (Nat.le_refl _)).1 (gh_small (by omega)) z]
  refine ⟨fun h => h.2, fun h => ⟨?_, h⟩⟩
  rcases ltge z (-40) with h' | h'
  · rw [gh_small h'] at h; cases h
  · exact h'
theorem rowEnd_runs (g : Grid) (y : Int) : ∀ (n : Nat) (e : Int), (40 - e).toNat ≤ n → ∀ v, e ≤ v → v < rowEnd g y e → runs g v = runs g y := by
  intro n
  induction n with
  | zero => intro e he v h1 h2; rw [rowEnd_stop (Or.inl (by omega))] at h2; omega
  | succ n ih =>
    intro e he v h1 h2
    by_cases h40 : e < 40
    · by_cases hr : runs g e = runs g y
      · rw [rowEnd_same h40 hr] at h2
        by_cases hv : v = e
        · subst hv; exact hr
        · exact ih (e + 1) (by omega) v (by omega) h2
      · rw [rowEnd_stop (Or.inr hr)] at h2; omega
    · rw [rowEnd_stop (Or.inl (by omega))] at h2; omega
theorem inL_append (l m : List Q4) (x y : Int) : inL (l ++ m) x y = (inL l x y || inL m x y) := by simp [inL]
theorem band_in (g : Grid) (y0 x y : Int) : inL (band g y0) x y = true ↔ (y0 ≤ y ∧ y < rowEnd g y0 (y0 + 1)) ∧ gh g x y0 = true := by
  rw [← runs_cov, inL, List.any_eq_true, band]
  constructor
  · rintro ⟨r, hr, h⟩
    rw [List.mem_map] at hr
    obtain ⟨p, hp, rfl⟩ := hr
    rw [inR_iff] at h
    exact ⟨h.2, p, hp, h.1⟩
  · rintro ⟨h, p, hp, h2⟩
    exact ⟨_, List.mem_map_of_mem hp, by rw [inR_iff]; exact ⟨h2, h⟩⟩
theorem canonY_in (g : Grid) : ∀ (n : Nat) (y0 : Int), (40 - y0).toNat ≤ n → y0 ≤ 40 → ∀ x y, inL (canonY g y0) x y = true ↔ y0 ≤ y ∧ gh g x y = true := by
  intro n
  induction n with
  | zero =>
    intro y0 hn h40 x y
    rw [canonY_stop (by omega)]
    refine ⟨(fun h => by cases h), fun ⟨h1, h2⟩ => ?_⟩
    rw [gh_off] at h2
    · cases h2
    · rw [onC, Bool.and_eq_false_iff]; right; simp; omega
  | succ n ih =>
    intro y0 hn h40 x y
    by_cases h : y0 < 40
    · have g1 := rowEnd_ge g y0 (y0 + 1)
      have g2 := rowEnd_le g y0 (y0 + 1) (by omega)
      rw [canonY_step h, inL_append, Bool.or_eq_true, band_in, ih _ (by omega) g2]
      constructor
      · rintro (⟨h1, h2⟩ | ⟨h1, h2⟩)
        · refine ⟨h1.1, ?_⟩
          by_cases he : y = y0
          · rw [he]; exact h2
          · rw [runs_inj.1 (rowEnd_runs g y0 _ (y0 + 1) (Nat.le_refl _) y (by omega) h1.2) x]; exact h2
        · exact ⟨by omega, h2⟩
      · rintro ⟨h1, h2⟩
        by_cases hl : y < rowEnd g y0 (y0 + 1)
        · left
          refine ⟨⟨h1, hl⟩, ?_⟩
          by_cases he : y = y0
          · rw [← he]; exact h2
          · rw [← runs_inj.1 (rowEnd_runs g y0 _ (y0 + 1) (Nat.le_refl _) y (by omega) hl) x]; exact h2
        · right; exact ⟨by omega, h2⟩
    · rw [canonY_stop (by omega)]
      refine ⟨(fun h => by cases h), fun ⟨h1, h2⟩ => ?_⟩
      rw [gh_off] at h2
      · cases h2
      · rw [onC, Bool.and_eq_false_iff]; right; simp; omega
/-- The region of a set has just the set's unit cells. -/
theorem canon_in (g : Grid) (x y : Int) : inL (canon g) x y = gh g x y := by
  rw [Bool.eq_iff_iff, canon, canonY_in g _ (-40) (Nat.le_refl _) (by omega)]
  refine ⟨fun h => h.2, fun h => ⟨?_, h⟩⟩
  rcases ltge y (-40) with h' | h'
  · rw [gh_off] at h
    · cases h
    · rw [onC, Bool.and_eq_false_iff]; right; simp; omega
  · exact h'
theorem canonY_valid (g : Grid) : ∀ (n : Nat) (y0 : Int), (40 - y0).toNat ≤ n → -40 ≤ y0 → y0 ≤ 40 → (canonY g y0).all vR = true ∧ (canonY g y0).length ≤ 40 * (40 - y0).toNat := by
  intro n
  induction n with
  | zero => intro y0 hn h1 h2; rw [canonY_stop (by omega)]; simp
  | succ n ih =>
    intro y0 hn h1 h2
    by_cases h : y0 < 40
    · have g1 := rowEnd_ge g y0 (y0 + 1)
      have g2 := rowEnd_le g y0 (y0 + 1) (by omega)
      obtain ⟨k1, k2⟩ := ih (rowEnd g y0 (y0 + 1)) (by omega) (by omega) g2
      obtain ⟨-, -, p3, p4⟩ := pairs_inc (runs g y0) (-40) (runs_inc g y0) (by omega)
      rw [canonY_step h, List.all_append, k1, Bool.and_true, List.length_append, band, List.length_map]
      refine ⟨?_, by omega⟩
      rw [List.all_eq_true]
      intro r hr
      rw [List.mem_map] at hr
      obtain ⟨p, hp, rfl⟩ := hr
      have := p4 p hp
      rw [vR_iff]
      simp only
      omega
    · rw [canonY_stop (by omega)]; simp
/-- A list of at most 3200 valid rectangles. -/
def vRs (l : List Q4) : Bool := decide (l.length ≤ 3200) && l.all vR
theorem canon_valid (g : Grid) : vRs (canon g) = true := by
  obtain ⟨h1, h2⟩ := canonY_valid g _ (-40) (Nat.le_refl _) (by omega) (by omega)
  rw [vRs, canon, h1, Bool.and_true, decide_eq_true_eq]
  have : (40 - (-40 : Int)).toNat = 80 := by decide
  omega
theorem canon_len (g : Grid) : (canon g).length ≤ 3200 := by have := canon_valid g; rw [vRs, Bool.and_eq_true, decide_eq_true_eq] at this; exact this.1
theorem gL_canon (g : Grid) : gcells (gL (canon g)) = gcells g := gcells_gh fun x y hc => by rw [gL, gh_gmk _ hc, canon_in]
/-- Sets with equal cells have equal regions. -/
theorem gh_of_cells {g g' : Grid} (h : gcells g = gcells g') (x y : Int) : gh g x y = gh g' x y := by
  by_cases hc : onC x y = true
  · rw [gh_on hc, gh_on hc]
    have h1 := gcells_get g (atG_lt hc)
    have h2 := gcells_get g' (atG_lt hc)
    rw [h] at h1
    rw [h1] at h2
    simpa using h2
  · rw [Bool.not_eq_true] at hc; rw [gh_off hc, gh_off hc]
theorem chg_congr {g g' : Grid} (h : ∀ x y, gh g x y = gh g' x y) (y : Int) : ∀ (n : Nat) (x : Int), (41 - x).toNat ≤ n → chg g y x = chg g' y x := by
  intro n
  induction n with
  | zero => intro x hx; rw [chg_stop (by omega), chg_stop (by omega)]
  | succ n ih =>
    intro x hx
    by_cases h4 : x ≤ 40
    · by_cases hd : gh g x y = gh g (x - 1) y
      · rw [chg_miss hd, chg_miss (g := g') (x := x) (by rw [← h x, ← h (x - 1), hd]), ih (x + 1) (by omega)]
      · rw [chg_hit h4 hd, chg_hit (g := g') h4 (by rw [← h x, ← h (x - 1)]; exact hd), ih (x + 1) (by omega)]
    · rw [chg_stop (by omega), chg_stop (by omega)]
theorem runs_congr {g g' : Grid} (h : ∀ x y, gh g x y = gh g' x y) (y : Int) : runs g y = runs g' y := chg_congr h y _ _ (Nat.le_refl _)
theorem rowEnd_congr {g g' : Grid} (h : ∀ x y, gh g x y = gh g' x y) (y : Int) : ∀ (n : Nat) (e : Int), (40 - e).toNat ≤ n → rowEnd g y e = rowEnd g' y e := by
  intro n
  induction n with
  | zero => intro e he; rw [rowEnd_stop (Or.inl (by omega)), rowEnd_stop (Or.inl (by omega))]
  | succ n ih =>
    intro e he
    by_cases h4 : e < 40
    · by_cases hr : runs g e = runs g y
      · rw [rowEnd_same h4 hr, rowEnd_same (g := g') h4 (by rw [← runs_congr h, ← runs_congr h, hr]), ih (e + 1) (by omega)]
      · rw [rowEnd_stop (Or.inr hr), rowEnd_stop (g := g') (Or.inr (by rw [← runs_congr h, ← runs_congr h]; exact hr))]
    · rw [rowEnd_stop (Or.inl (by omega)), rowEnd_stop (Or.inl (by omega))]
theorem canonY_congr {g g' : Grid} (h : ∀ x y, gh g x y = gh g' x y) : ∀ (n : Nat) (y : Int), (40 - y).toNat ≤ n → canonY g y = canonY g' y := by
  intro n
  induction n with
  | zero => intro y hy; rw [canonY_stop (by omega), canonY_stop (by omega)]
  | succ n ih =>
    intro y hy
    by_cases h4 : y < 40
    · have := rowEnd_ge g y (y + 1)
      rw [canonY_step h4, canonY_step (g := g') h4, band, band, runs_congr h, ← rowEnd_congr h y _ _ (Nat.le_refl _), ih (rowEnd g y (y + 1)) (by omega)]
    · rw [canonY_stop (by omega), canonY_stop (by omega)]
theorem canon_congr {g g' : Grid} (h : ∀ x y, gh g x y = gh g' x y) : canon g = canon g' := canonY_congr h _ _ (Nat.le_refl _)
theorem canon_cells {g g' : Grid} (h : gcells g = gcells g') : canon g = canon g' := canon_congr (gh_of_cells h)
/-- The list is a region. -/
def isReg (l : List Q4) : Bool := vRs l && decide (canon (gL l) = l)
theorem isReg_canon (g : Grid) : isReg (canon g) = true := by
  rw [isReg, canon_valid, Bool.true_and, decide_eq_true_eq]
  exact canon_cells (gL_canon g)
theorem isReg_iff {l : List Q4} : isReg l = true ↔ vRs l = true ∧ canon (gL l) = l := by simp [isReg]
theorem isReg_area {l : List Q4} (h : canon (gL l) = l) : 0 ≤ areaL l ∧ areaL l ≤ 6400 := by
  have := canonY_area (gL l) _ (-40) (Nat.le_refl _) (by omega) (by omega)
  rw [show canonY (gL l) (-40) = canon (gL l) from rfl, h] at this
  omega
end Go.Proofs.Ytiljojpnbpdaeaa
