/- PLAIN: the scan for the connected parts of a set, as the program does it; the order of the parts. No condition. -/
import Derived.Test.YtaigndaabmelhaaPrt
namespace Go.Proofs.Ytaigndaabmelhaa

/-- A set less those of another one with an index below m. -/
def subN (l c : Grid) (m : Nat) : Grid := fun j => l j && !(decide (j < m) && c j)
theorem subN_zero (l c : Grid) : gcells l = gcells (subN l c 0) := gcells_ext fun i _ => by simp [subN]
theorem subN_all (l c : Grid) : gcells (subN l c 6400) = gcells (subG l c) := gcells_ext fun i hi => by simp [subN, subG, hi]
theorem subN_set (l c : Grid) (m : Nat) : (gcells (subN l c m)).set m (.bool (l m && !c m)) = gcells (subN l c (m + 1)) := by
  rw [gcells_set]
  refine gcells_ext fun i _ => ?_
  rw [gset, subN, subN]
  by_cases e : i = m
  · subst e; simp
  · rw [if_neg e]
    have : decide (i < m) = decide (i < m + 1) := by rw [Bool.eq_iff_iff]; simp; omega
    rw [this]
theorem subN_miss {l c : Grid} {m : Nat} (h : l m = false) : gcells (subN l c m) = gcells (subN l c (m + 1)) := gcells_ext fun i _ => by
  rw [subN, subN]
  by_cases e : i = m
  · subst e; rw [h]; rfl
  · have : decide (i < m) = decide (i < m + 1) := by rw [Bool.eq_iff_iff]; simp; omega
    rw [this]
theorem subN_at (l c : Grid) (m : Nat) : subN l c m m = l m := by simp [subN]
/-- What holds of the scan when the unit cells below i had their turn: l is left, d is done, G are the parts. -/
structure PtI (g : Grid) (i : Nat) (l d : Grid) (G : List Grid) : Prop where
  scan : Scan g i d
  split : partsG g = G ++ partsN g (6400 - i) i d
  left : ∀ x y, gh l x y = (gh g x y && !gh d x y)
theorem PtI.start (g : Grid) : PtI g 0 g gnone [] := ⟨Scan.start g, rfl, fun x y => by simp [gh, gnone]⟩
theorem PtI.val {g l d : Grid} {i : Nat} {G : List Grid} (h : PtI g i l d G) (h6 : i < 6400) : l i = (g i && !d i) := by
  have := h.left (xOf i) (yOf i)
  rwa [gh_of h6, gh_of h6, gh_of h6] at this
theorem PtI.miss {g l d : Grid} {i : Nat} {G : List Grid} (h : PtI g i l d G) (h6 : i < 6400) (hl : l i = false) : PtI g (i + 1) l d G := by
  have hv := h.val h6
  rw [hl] at hv
  refine ⟨h.scan.miss hv.symm, ?_, h.left⟩
  rw [h.split, show 6400 - i = (6400 - (i + 1)) + 1 by omega, partsN_miss hv.symm]
theorem PtI.hit {g l d : Grid} {i : Nat} {G : List Grid} (h : PtI g i l d G) (h6 : i < 6400) (hl : l i = true) :
    gcells (floodG l false (p2 i)) = gcells (floodG g false (p2 i)) ∧ PtI g (i + 1) (subG l (floodG g false (p2 i))) (orG d (floodG g false (p2 i))) (G ++ [floodG g false (p2 i)]) := by
  have hv := h.val h6
  rw [hl] at hv
  have h2 := hv.symm
  rw [Bool.and_eq_true, Bool.not_eq_true'] at h2
  refine ⟨h.scan.left h6 h2.1 h2.2 h.left, h.scan.hit h6 h2.1, ?_, fun x y => ?_⟩
  · rw [h.split, show 6400 - i = (6400 - (i + 1)) + 1 by omega, partsN_hit h2.1 h2.2, List.append_assoc, List.singleton_append]
  · rw [gh_sub, gh_or, h.left, Bool.not_or, Bool.and_assoc]
theorem PtI.done {g l d : Grid} {G : List Grid} (h : PtI g 6400 l d G) : partsG g = G := by
  rw [h.split]; exact List.append_nil _
theorem PtI.len {g l d : Grid} {i : Nat} {G : List Grid} (h : PtI g i l d G) : G.length ≤ 6400 := by
  have := (partsG_ok g).2.2.2
  rw [h.split, List.length_append] at this
  omega
theorem PtI.room {g l d : Grid} {i : Nat} {G : List Grid} (h : PtI g i l d G) (h6 : i < 6400) (hl : l i = true) : G.length + 1 ≤ 6400 := by
  have := (h.hit h6 hl).2.len
  rwa [List.length_append] at this
def rcLt (r s : Q4) : Prop := r.b < s.b ∨ (r.b = s.b ∧ r.a < s.a)
/-- The parts stand in the order of their first rectangles. -/
theorem parts_order (g : Grid) : ∃ f : Nat → Q4, (∀ k l, ((partsG g).map canon)[k]? = some l → ∃ rs, l = f k :: rs) ∧ (∀ j k, j < k → k < (partsG g).length → rcLt (f j) (f k)) := by
  obtain ⟨h1, h2, _, _⟩ := partsG_ok g
  refine ⟨fun k => (((partsG g).map canon).getD k []).headD ⟨0, 0, 0, 0⟩, fun k l hl => ?_, fun j k hjk hk => ?_⟩
  · have hl2 := hl
    rw [List.getElem?_map, Option.map_eq_some_iff] at hl2
    obtain ⟨c, hc, rfl⟩ := hl2
    obtain ⟨i, hi⟩ := h1 c (List.mem_of_getElem? hc)
    obtain ⟨r, rs, hr, _⟩ := canon_first hi.1
    refine ⟨rs, ?_⟩
    show canon c = (((partsG g).map canon).getD k []).headD ⟨0, 0, 0, 0⟩ :: rs
    rw [List.getD_eq_getElem?_getD, hl, hr]; rfl
  · rw [List.pairwise_iff_getElem] at h2
    obtain ⟨i, i', hi, hi', hlt, _⟩ := h2 j k (by omega) hk hjk
    obtain ⟨r, rs, hr, ha, hb⟩ := canon_first hi.1
    obtain ⟨s, ss, hs, ha', hb'⟩ := canon_first hi'.1
    have e : ∀ {k : Nat} (hk : k < (partsG g).length) {r rs}, canon (partsG g)[k] = r :: rs → (((partsG g).map canon).getD k []).headD ⟨0, 0, 0, 0⟩ = r := fun hk r rs hr => by
      rw [List.getD_eq_getElem?_getD, List.getElem?_map, List.getElem?_eq_getElem hk, Option.map_some, hr]; rfl
    show rcLt ((((partsG g).map canon).getD j []).headD ⟨0, 0, 0, 0⟩) ((((partsG g).map canon).getD k []).headD ⟨0, 0, 0, 0⟩)
    rw [e (by omega) hr, e hk hs, rcLt, ha, hb, ha', hb']
    unfold xOf yOf
    omega
end Go.Proofs.Ytaigndaabmelhaa
