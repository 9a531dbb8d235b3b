/- Plain laws: sets of unit cells (grids), the region of a set (its maximal runs, row by row, equal rows joined). No condition. -/
import Derived.Test.YtaigndaabmelhaaLib
namespace Go.Proofs.Ytaigndaabmelhaa
open Go.RowKit

instance decQ4 : DecidableEq Q4 := fun x y => decidable_of_iff (x.a = y.a ∧ x.b = y.b ∧ x.c = y.c ∧ x.d = y.d) ⟨fun h => by cases x; cases y; simp_all, fun h => by subst h; simp⟩

/-- A set of unit cells: 80 rows of 80. -/
abbrev Grid := Nat → Bool
def gcells (g : Grid) : List Value := (List.range 6400).map fun i => .bool (g i)
theorem gcells_len (g : Grid) : (gcells g).length = 6400 := by simp [gcells]
theorem gcells_get (g : Grid) {i : Nat} (h : i < 6400) : (gcells g)[i]? = some (.bool (g i)) := by
  rw [gcells, List.getElem?_map, List.getElem?_range h]; rfl
theorem gcells_ext {g g' : Grid} (h : ∀ i, i < 6400 → g i = g' i) : gcells g = gcells g' :=
  List.map_congr_left fun i hi => by rw [h i (List.mem_range.1 hi)]
def gset (g : Grid) (k : Nat) (b : Bool) : Grid := fun i => if i = k then b else g i
theorem gcells_set (g : Grid) (k : Nat) (b : Bool) : (gcells g).set k (.bool b) = gcells (gset g k b) := by
  apply List.ext_getElem?
  intro i
  rw [List.getElem?_set]
  by_cases hi : i < 6400
  · rw [gcells_get _ hi, gcells_get _ hi, gcells_len]
    by_cases hk : k = i
    · subst hk; simp [gset, hi]
    · rw [if_neg hk, gset, if_neg (fun h => hk h.symm)]
  · rw [gcells, gcells]
    simp only [List.getElem?_map, List.getElem?_eq_none (show (List.range 6400).length ≤ i by simp; omega), Option.map_none]
    split
    · rename_i h; subst h; simp; omega
    · rfl
def gnone : Grid := fun _ => false
theorem gcells_none : gcells gnone = List.replicate 6400 (.bool false) := by
  apply List.ext_getElem?
  intro i
  by_cases hi : i < 6400
  · rw [gcells_get _ hi, List.getElem?_replicate, if_pos hi]; rfl
  · rw [List.getElem?_eq_none (by rw [gcells_len]; omega), List.getElem?_eq_none (by rw [List.length_replicate]; omega)]

/-- Where the unit cell (x, y) stands. -/
def atG (x y : Int) : Nat := ((y + 40) * 80 + x + 40).toNat
/-- A unit cell of the chip. -/
def onC (x y : Int) : Bool := decide (-40 ≤ x ∧ x ≤ 39) && decide (-40 ≤ y ∧ y ≤ 39)
theorem onC_iff {x y : Int} : onC x y = true ↔ (-40 ≤ x ∧ x ≤ 39) ∧ (-40 ≤ y ∧ y ≤ 39) := by simp [onC]
def gh (g : Grid) (x y : Int) : Bool := onC x y && g (atG x y)
theorem gh_on {g : Grid} {x y : Int} (h : onC x y = true) : gh g x y = g (atG x y) := by rw [gh, h, Bool.true_and]
theorem gh_off {g : Grid} {x y : Int} (h : onC x y = false) : gh g x y = false := by rw [gh, h, Bool.false_and]
def xOf (i : Nat) : Int := ((i % 80 : Nat) : Int) - 40
def yOf (i : Nat) : Int := ((i / 80 : Nat) : Int) - 40
theorem atG_lt {x y : Int} (h : onC x y = true) : atG x y < 6400 := by rw [onC_iff] at h; unfold atG; omega
theorem at_of (i : Nat) : atG (xOf i) (yOf i) = i := by unfold atG xOf yOf; omega
theorem on_of {i : Nat} (h : i < 6400) : onC (xOf i) (yOf i) = true := by rw [onC_iff]; unfold xOf yOf; omega
theorem xOf_at {x y : Int} (h : onC x y = true) : xOf (atG x y) = x := by rw [onC_iff] at h; unfold xOf atG; omega
theorem yOf_at {x y : Int} (h : onC x y = true) : yOf (atG x y) = y := by rw [onC_iff] at h; unfold yOf atG; omega
theorem gh_of {g : Grid} {i : Nat} (h : i < 6400) : gh g (xOf i) (yOf i) = g i := by rw [gh_on (on_of h), at_of]
theorem atG_inj {x y u v : Int} (h : onC x y = true) (k : onC u v = true) (e : atG x y = atG u v) : x = u ∧ y = v := by
  rw [onC_iff] at h k; unfold atG at e; omega
theorem gcells_gh {g g' : Grid} (h : ∀ x y, onC x y = true → gh g x y = gh g' x y) : gcells g = gcells g' :=
  gcells_ext fun i hi => by have := h _ _ (on_of hi); rwa [gh_of hi, gh_of hi] at this
theorem gh_gset {g : Grid} {x y u v : Int} (b : Bool) (h : onC u v = true) : gh (gset g (atG u v) b) x y = if x = u ∧ y = v then b else gh g x y := by
  by_cases hc : onC x y = true
  · rw [gh_on hc, gset]
    by_cases he : x = u ∧ y = v
    · obtain ⟨rfl, rfl⟩ := he; simp
    · rw [if_neg he, if_neg (fun e => he (atG_inj hc h e)), gh_on hc]
  · rw [Bool.not_eq_true] at hc
    rw [gh_off hc, gh_off hc]
    split
    · rename_i h2; obtain ⟨rfl, rfl⟩ := h2; rw [h] at hc; cases hc
    · rfl
/-- Made from what it says of each unit cell. -/
def gmk (f : Int → Int → Bool) : Grid := fun i => f (xOf i) (yOf i)
theorem gh_gmk (f : Int → Int → Bool) {x y : Int} (h : onC x y = true) : gh (gmk f) x y = f x y := by rw [gh_on h, gmk, xOf_at h, yOf_at h]
theorem gmk_at (f : Int → Int → Bool) {x y : Int} (h : onC x y = true) : gmk f (atG x y) = f x y := by rw [gmk, xOf_at h, yOf_at h]
theorem gset_gmk {f f' : Int → Int → Bool} {u v : Int} (b : Bool) (h : onC u v = true) (hf : ∀ x y, onC x y = true → f' x y = if x = u ∧ y = v then b else f x y) : gcells (gset (gmk f) (atG u v) b) = gcells (gmk f') := by
  apply gcells_gh
  intro x y hc
  rw [gh_gset b h, gh_gmk _ hc, gh_gmk _ hc, hf x y hc]
theorem gmk_ext {f f' : Int → Int → Bool} (h : ∀ x y, onC x y = true → f x y = f' x y) : gcells (gmk f) = gcells (gmk f') :=
  gcells_gh fun x y hc => by rw [gh_gmk _ hc, gh_gmk _ hc, h x y hc]

/-- A unit cell of a rectangle. -/
def inR (r : Q4) (x y : Int) : Bool := decide (r.a ≤ x ∧ x < r.c) && decide (r.b ≤ y ∧ y < r.d)
theorem inR_iff {r : Q4} {x y : Int} : inR r x y = true ↔ (r.a ≤ x ∧ x < r.c) ∧ (r.b ≤ y ∧ y < r.d) := by simp [inR]
/-- A valid rectangle. -/
def vR (r : Q4) : Bool := (decide (-40 ≤ r.a) && decide (r.a < r.c) && decide (r.c ≤ 40)) && (decide (-40 ≤ r.b) && decide (r.b < r.d) && decide (r.d ≤ 40))
theorem vR_iff {r : Q4} : vR r = true ↔ (-40 ≤ r.a ∧ r.a < r.c ∧ r.c ≤ 40) ∧ (-40 ≤ r.b ∧ r.b < r.d ∧ r.d ≤ 40) := by
  simp [vR, and_assoc]
theorem inR_on {r : Q4} {x y : Int} (hv : vR r = true) (h : inR r x y = true) : onC x y = true := by rw [vR_iff] at hv; rw [inR_iff] at h; rw [onC_iff]; omega
/-- The unit cells of a list of rectangles. -/
def inL (l : List Q4) (x y : Int) : Bool := l.any fun r => inR r x y
def gL (l : List Q4) : Grid := gmk (inL l)
/-- f, and a rectangle as far as (x, y), row by row. -/
def part (f : Int → Int → Bool) (r : Q4) (u v : Int) : Int → Int → Bool := fun x y => f x y || (inR r x y && (decide (y < v) || (decide (y = v) && decide (x < u))))
theorem part_set (f : Int → Int → Bool) (r : Q4) {u v : Int} (h : onC u v = true) (hr : inR r u v = true) : gcells (gset (gmk (part f r u v)) (atG u v) true) = gcells (gmk (part f r (u + 1) v)) := by
  refine gset_gmk _ h fun x y _ => ?_
  rw [part, part]
  by_cases he : x = u ∧ y = v
  · obtain ⟨rfl, rfl⟩ := he
    rw [if_pos ⟨rfl, rfl⟩, hr]
    simp [Int.lt_succ]
  · rw [if_neg he]
    congr 2
    rw [Bool.eq_iff_iff]
    simp
    omega
theorem part_row (f : Int → Int → Bool) (r : Q4) {u u' v : Int} (h : ∀ x, onC x v = true → inR r x v = true → x < u) (h' : ∀ x, onC x (v + 1) = true → inR r x (v + 1) = true → u' ≤ x) : gcells (gmk (part f r u v)) = gcells (gmk (part f r u' (v + 1))) := by
  refine gmk_ext fun x y hc => ?_
  rw [part, part]
  congr 1
  by_cases hr : inR r x y = true
  · rw [hr, Bool.true_and, Bool.true_and, Bool.eq_iff_iff]
    simp
    constructor
    · rintro (h1 | ⟨rfl, h2⟩)
      · left; omega
      · left; omega
    · rintro (h1 | ⟨rfl, h2⟩)
      · by_cases h3 : y = v
        · subst h3; exact Or.inr ⟨rfl, h x hc hr⟩
        · left; omega
      · have := h' x hc hr; omega
  · rw [Bool.not_eq_true] at hr; rw [hr]; rfl
theorem part_start (f : Int → Int → Bool) (r : Q4) {u v : Int} (h : ∀ x y, onC x y = true → inR r x y = true → v ≤ y ∧ (y = v → u ≤ x)) : gcells (gmk f) = gcells (gmk (part f r u v)) := by
  refine gmk_ext fun x y hc => ?_
  rw [part]
  by_cases hr : inR r x y = true
  · obtain ⟨h1, h2⟩ := h x y hc hr
    have : (decide (y < v) || (decide (y = v) && decide (x < u))) = false := by
      rw [Bool.or_eq_false_iff, Bool.and_eq_false_iff]
      refine ⟨by simpa using h1, ?_⟩
      by_cases he : y = v
      · right; simpa using h2 he
      · left; simpa using he
    rw [this, Bool.and_false, Bool.or_false]
  · rw [Bool.not_eq_true] at hr; rw [hr]; simp
theorem part_end (f : Int → Int → Bool) (r : Q4) {u v : Int} (h : ∀ x y, onC x y = true → inR r x y = true → y < v) : gcells (gmk (part f r u v)) = gcells (gmk (fun x y => f x y || inR r x y)) := by
  refine gmk_ext fun x y hc => ?_
  rw [part]
  by_cases hr : inR r x y = true
  · have := h x y hc hr
    simp [hr, this]
  · rw [Bool.not_eq_true] at hr; rw [hr]; simp
theorem inL_snoc {l : List Q4} {k : Nat} {r : Q4} (h : l[k]? = some r) : (fun x y => inL (l.take k) x y || inR r x y) = inL (l.take (k + 1)) := by
  funext x y
  rw [take_snoc h, inL, inL, List.any_append]; simp
theorem inL_nil : gcells gnone = gcells (gmk (inL [])) := gcells_ext fun _ _ => rfl

/-- The columns at which a row changes, from x on. -/
def chg (g : Grid) (y : Int) (x : Int) : List Int :=
  if _h : x ≤ 40 then (if gh g x y != gh g (x - 1) y then x :: chg g y (x + 1) else chg g y (x + 1)) else []
termination_by (41 - x).toNat
def runs (g : Grid) (y : Int) : List Int := chg g y (-40)
def pairs : List Int → List (Int × Int)
  | a :: b :: l => (a, b) :: pairs l
  | _ => []
/-- The row at which equal rows end, from e on. -/
def rowEnd (g : Grid) (y e : Int) : Int := if _h : e < 40 then (if runs g e = runs g y then rowEnd g y (e + 1) else e) else e
termination_by (40 - e).toNat
theorem rowEnd_ge (g : Grid) (y e : Int) : e ≤ rowEnd g y e := by
  rw [rowEnd]
  split
  · split
    · have := rowEnd_ge g y (e + 1); omega
    · omega
  · omega
termination_by (40 - e).toNat
theorem rowEnd_le (g : Grid) (y e : Int) (h : e ≤ 40) : rowEnd g y e ≤ 40 := by
  rw [rowEnd]
  split
  · split
    · exact rowEnd_le g y (e + 1) (by omega)
    · omega
  · omega
termination_by (40 - e).toNat
/-- The rectangles of one band of equal rows. -/
def band (g : Grid) (y : Int) : List Q4 := (pairs (runs g y)).map fun p => ⟨p.1, y, p.2, rowEnd g y (y + 1)⟩
def canonY (g : Grid) (y : Int) : List Q4 := if _h : y < 40 then band g y ++ canonY g (rowEnd g y (y + 1)) else []
termination_by (40 - y).toNat
decreasing_by have := rowEnd_ge g y (y + 1); omega
/-- The region of a set. -/
def canon (g : Grid) : List Q4 := canonY g (-40)
theorem rowEnd_same {g : Grid} {y e : Int} (h : e < 40) (hr : runs g e = runs g y) : rowEnd g y e = rowEnd g y (e + 1) := by
  rw [rowEnd, dif_pos h, if_pos hr]
theorem rowEnd_stop {g : Grid} {y e : Int} (h : 40 ≤ e ∨ runs g e ≠ runs g y) : rowEnd g y e = e := by
  rw [rowEnd]
  split
  · rcases h with h | h
    · omega
    · rw [if_neg h]
  · rfl
theorem canonY_step {g : Grid} {y : Int} (h : y < 40) : canonY g y = band g y ++ canonY g (rowEnd g y (y + 1)) := by rw [canonY, dif_pos h]
theorem canonY_stop {g : Grid} {y : Int} (h : 40 ≤ y) : canonY g y = [] := by rw [canonY, dif_neg (by omega)]
theorem chg_hit {g : Grid} {y x : Int} (h : x ≤ 40) (hd : gh g x y ≠ gh g (x - 1) y) : chg g y x = x :: chg g y (x + 1) := by
  rw [chg, dif_pos h, if_pos (by simpa using hd)]
theorem chg_miss {g : Grid} {y x : Int} (hd : gh g x y = gh g (x - 1) y) : chg g y x = chg g y (x + 1) := by
  by_cases h : x ≤ 40
  · rw [chg, dif_pos h, if_neg (by simpa using hd)]
  · rw [chg, dif_neg h, chg, dif_neg (by omega)]
theorem chg_stop {g : Grid} {y x : Int} (h : 40 < x) : chg g y x = [] := by rw [chg, dif_neg (by omega)]
theorem chg_mem (g : Grid) (y x : Int) : ∀ z, z ∈ chg g y x ↔ x ≤ z ∧ z ≤ 40 ∧ gh g z y ≠ gh g (z - 1) y := by
  intro z
  by_cases h : x ≤ 40
  · by_cases hd : gh g x y = gh g (x - 1) y
    · rw [chg_miss hd, chg_mem g y (x + 1) z]
      constructor
      · rintro ⟨h1, h2, h3⟩; exact ⟨by omega, h2, h3⟩
      · rintro ⟨h1, h2, h3⟩
        refine ⟨?_, h2, h3⟩
        by_cases he : z = x
        · subst he; exact absurd hd h3
        · omega
    · rw [chg_hit h hd, List.mem_cons, chg_mem g y (x + 1) z]
      constructor
      · rintro (rfl | ⟨h1, h2, h3⟩)
        · exact ⟨by omega, h, hd⟩
        · exact ⟨by omega, h2, h3⟩
      · rintro ⟨h1, h2, h3⟩
        by_cases he : z = x
        · exact Or.inl he
        · exact Or.inr ⟨by omega, h2, h3⟩
  · rw [chg_stop (by omega)]
    simp; omega
termination_by (41 - x).toNat
/-- Rows with equal changes are equal. -/
theorem runs_inj {g : Grid} {y y' : Int} : runs g y = runs g y' ↔ ∀ x, gh g x y = gh g x y' := by
  constructor
  · intro h x
    have key : ∀ n : Nat, gh g ((n : Int) - 41) y = gh g ((n : Int) - 41) y' := by
      intro n
      induction n with
      | zero => rw [gh_off, gh_off] <;> simp [onC]
      | succ n ih =>
        have e : (((n + 1 : Nat) : Int) - 41) - 1 = (n : Int) - 41 := by omega
        by_cases h40 : ((n + 1 : Nat) : Int) - 41 ≤ 40
        · have h1 := chg_mem g y (-40) (((n + 1 : Nat) : Int) - 41)
          have h2 := chg_mem g y' (-40) (((n + 1 : Nat) : Int) - 41)
          rw [runs, runs] at h
          rw [h, h2, e, ih] at h1
          have h3 : (gh g (((n + 1 : Nat) : Int) - 41) y' ≠ gh g ((n : Int) - 41) y') ↔ gh g (((n + 1 : Nat) : Int) - 41) y ≠ gh g ((n : Int) - 41) y' := by
            constructor
            · intro h4; exact (h1.1 ⟨by omega, h40, h4⟩).2.2
            · intro h4; exact (h1.2 ⟨by omega, h40, h4⟩).2.2
          revert h3
          cases gh g (((n + 1 : Nat) : Int) - 41) y' <;> cases gh g (((n + 1 : Nat) : Int) - 41) y <;> cases gh g ((n : Int) - 41) y' <;> simp
        · rw [gh_off, gh_off]
          · rw [onC, Bool.and_eq_false_iff]; left; simp; omega
          · rw [onC, Bool.and_eq_false_iff]; left; simp; omega
    by_cases hx : -41 ≤ x
    · have := key (x + 41).toNat
      rwa [show (((x + 41).toNat : Nat) : Int) - 41 = x by omega] at this
    · rw [gh_off, gh_off]
      · rw [onC, Bool.and_eq_false_iff]; left; simp; omega
      · rw [onC, Bool.and_eq_false_iff]; left; simp; omega
  · intro h
    have key : ∀ x, chg g y x = chg g y' x := by
      intro x
      by_cases hx : x ≤ 40
      · have ih : ∀ n : Nat, ∀ x : Int, (41 - x).toNat ≤ n → chg g y x = chg g y' x := by
          intro n
          induction n with
          | zero => intro x hx; rw [chg_stop (by omega), chg_stop (by omega)]
          | succ n ih =>
            intro x hx
            by_cases hx4 : x ≤ 40
            · by_cases hd : gh g x y = gh g (x - 1) y
              · rw [chg_miss hd, chg_miss (x := x) (y := y') (by rw [← h x, ← h (x - 1), hd]), ih (x + 1) (by omega)]
              · rw [chg_hit hx4 hd, chg_hit hx4 (by rw [← h x, ← h (x - 1)]; exact hd), ih (x + 1) (by omega)]
            · rw [chg_stop (by omega), chg_stop (by omega)]
        exact ih _ x (Nat.le_refl _)
      · rw [chg_stop (by omega), chg_stop (by omega)]
    exact key _
end Go.Proofs.Ytaigndaabmelhaa
