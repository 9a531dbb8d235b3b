/- Contract of l32Distances (reference): the search from a unit cell, told as a row of 6400 numbers. Condition: the unit cell is on the chip. -/
import Derived.Test.YtaigndaabmelhaaRch
namespace Go.Proofs.Ytaigndaabmelhaa
open Go.RowKit

def dcells (D : Q2 → Int) : List Value := (List.range 6400).map fun i => .int .i64 (D ⟨xOf i, yOf i⟩)
theorem dcells_len (D : Q2 → Int) : (dcells D).length = 6400 := by simp [dcells]
theorem dcells_get (D : Q2 → Int) {q : Q2} (h : onC q.a q.b = true) : (dcells D)[atG q.a q.b]? = some (.int .i64 (D q)) := by
  rw [dcells, List.getElem?_map, List.getElem?_range (atG_lt h)]
  simp only [Option.map_some]
  rw [xOf_at h, yOf_at h]
theorem dcells_set (D : Q2 → Int) {q : Q2} (v : Int) (h : onC q.a q.b = true) : (dcells D).set (atG q.a q.b) (.int .i64 v) = dcells (updD D q v) := by
  apply List.ext_getElem?
  intro i
  rw [List.getElem?_set, dcells_len]
  by_cases hi : i < 6400
  · by_cases he : atG q.a q.b = i
    · subst he
      rw [if_pos rfl, if_pos hi, dcells_get _ h, updD, if_pos rfl]
    · rw [if_neg he, dcells, dcells, List.getElem?_map, List.getElem?_map, List.getElem?_range hi]
      simp only [Option.map_some]
      rw [updD, if_neg]
      intro e
      apply he
      rw [← e]
      exact at_of i
  · rw [List.getElem?_eq_none (by rw [dcells_len]; omega), List.getElem?_eq_none (by rw [dcells_len]; omega)]
    split
    · rename_i he; exfalso; have h6 : atG q.a q.b < 6400 := atG_lt h; omega
    · rfl
def minit (k : Nat) : List Value := (List.range 6400).map fun i => .int .i64 (if i < k then -1 else 0)
theorem minit_zero : List.replicate 6400 (Value.int .i64 0) = minit 0 := by
  apply List.ext_getElem?
  intro i
  by_cases hi : i < 6400
  · rw [List.getElem?_replicate, if_pos hi, minit, List.getElem?_map, List.getElem?_range hi]; simp
  · rw [List.getElem?_eq_none (by rw [List.length_replicate]; omega), List.getElem?_eq_none (by simp [minit]; omega)]
theorem minit_all : minit 6400 = dcells (fun _ => -1) := List.map_congr_left fun i hi => by rw [if_pos (List.mem_range.1 hi)]
theorem minit_set {k : Nat} (h : k < 6400) : (minit k).set k (.int .i64 (-1)) = minit (k + 1) := by
  apply List.ext_getElem?
  intro i
  rw [List.getElem?_set, show (minit k).length = 6400 by simp [minit]]
  by_cases hi : i < 6400
  · by_cases he : k = i
    · subst he
      rw [if_pos rfl, if_pos hi, minit, List.getElem?_map, List.getElem?_range hi]; simp
    · rw [if_neg he, minit, minit, List.getElem?_map, List.getElem?_map, List.getElem?_range hi]
      simp only [Option.map_some]
      by_cases h1 : i < k
      · rw [if_pos h1, if_pos (by omega)]
      · rw [if_neg h1, if_neg (by omega)]
  · rw [List.getElem?_eq_none (by simp [minit]; omega), List.getElem?_eq_none (by simp [minit]; omega)]
    split
    · rename_i he; exfalso; have h6 : k < 6400 := h; omega
    · rfl
/-- What the search leaves: a row of 6400 numbers. -/
def DistR (D : Q2 → Int) (w : World) (e : Ending) (w' : World) : Prop := ∃ B, e = .returned (.slice (some ⟨B, 0, none⟩) 6400 6400) ∧ w'.ownsRow w.heap.size 2 1 (.slice (some ⟨B, 0, none⟩) 6400 6400) 6400 (dcells D) ∧ Ext w w'
theorem owns_blk {w : World} {B base : Nat} {cs : List Value} {e : TypeId} {n size : Nat} (h : w.heap[B]? = some (.cells cs.toArray e (0, 0))) (hb : base ≤ B) (hl : cs.length = n * size) (hn : n ≤ maxLen) : w.ownsRow base e size (.slice (some ⟨B, 0, none⟩) n n) n cs :=
  ⟨hl, .inr ⟨B, n, cs.toArray, rfl, hb, h, Nat.le_refl _, hn, by simp [hl], by simp [← hl]⟩⟩
theorem updD_neg (p : Q2) : updD (fun _ => -1) p 0 = (bfs0 p).1 := rfl
end Go.Proofs.Ytaigndaabmelhaa
