/- Contract of slices.SortFunc at constraints (the shelf's, at this program), told of owned rows. Condition: at most 2^20 elements. -/
import Derived.Test.YtnhiepgfgnemkaaCc1
import Derived.Test.YtnhiepgfgnemkaaShp
import Derived.Test.YtnhiepgfgnemkaaStp
namespace Go.Proofs.Ytnhiepgfgnemkaa
open Go.RowKit Go.Sort

instance : Inhabited Q3 := ⟨⟨0, 0, 0⟩⟩
theorem flatK_list {α : Type} [Inhabited α] {enc : α → List Value} {k : Nat} (hk : ∀ x, (enc x).length = k) (h0 : 0 < k) (l : List α) : (flatK enc k l.toArray).toList = l.flatMap enc := by
  apply List.ext_getElem?
  intro t
  by_cases ht : t < l.length * k
  · have hd : t / k < l.length := Nat.div_lt_of_lt_mul (by rw [Nat.mul_comm]; exact ht)
    have hm : t % k < k := Nat.mod_lt _ h0
    have hx : l[t / k]? = some l[t / k] := List.getElem?_eq_getElem hd
    have hme : t % k < (enc l[t / k]).length := by rw [hk]; exact hm
    have hv : (enc l[t / k])[t % k]? = some (enc l[t / k])[t % k] := List.getElem?_eq_getElem hme
    have h1 := flatMap_at hk hx hv
    rw [Nat.div_add_mod'] at h1
    rw [h1]
    have hs : t < (flatK enc k l.toArray).size := by simpa using ht
    rw [Array.getElem?_toList, Array.getElem?_eq_getElem hs, ← getElem!_pos _ t hs, get_flatK _ _ _ _ (by simpa using ht)]
    congr 1
    rw [getElem!_pos l.toArray (t / k) (by simpa using hd), List.getElem_toArray, getElem!_pos (enc l[t / k]) (t % k) (by rw [hk]; exact hm)]
  · rw [List.getElem?_eq_none (by simp; omega), List.getElem?_eq_none (by rw [flatMap_len hk]; omega)]
theorem holdsK_of {α : Type} [Inhabited α] {enc : α → List Value} {k : Nat} (hk : ∀ x, (enc x).length = k) (h0 : 0 < k) {w : World} {base n c g : Nat} {e : TypeId} {l : List α} (hl : l.length = n)
    (h : w.ownsRow base e k (.slice (some ⟨g, 0, none⟩) n c) n (l.flatMap enc)) : HoldsK enc k w g 0 l.toArray := by
  intro j hj
  have hj' : j < n * k := by simpa [hl] using hj
  rw [Nat.zero_add]
  refine ⟨?_, owns_free h j⟩
  rw [h.cellAt j hj', ← flatK_list hk h0, Array.getElem?_toList, Array.getElem?_eq_getElem hj, getElem!_pos _ j hj]; rfl
theorem owns_sorted {α : Type} [Inhabited α] {enc : α → List Value} {k : Nat} (hk : ∀ x, (enc x).length = k) (h0 : 0 < k) {w : World} {base n c g q : Nat} {e : TypeId} {l d : List α} (hd : d.length = n)
    (h : w.ownsRow base e k (.slice (some ⟨g, 0, none⟩) n c) n (l.flatMap enc)) (os : Array Obj) : (sortWorldK enc k w g 0 q d.toArray os).ownsRow base e k (.slice (some ⟨g, 0, none⟩) n c) n (d.flatMap enc) := by
  obtain ⟨h1, h2⟩ := h
  rcases h2 with ⟨e0, _⟩ | ⟨g', cap', cur, e0, hb, hg, hn, hm, hs, ht⟩
  · cases e0
  · injection e0 with e1 _ e3
    injection e1 with e1
    injection e1 with e1
    subst e1; subst e3
    have hlt : g < w.heap.size := by
      rcases Nat.lt_or_ge g w.heap.size with h' | h'
      · exact h'
      · rw [Array.getElem?_eq_none h'] at hg; cases hg
    refine ⟨by rw [flatMap_len hk, hd], .inr ⟨g, c, putCells id 0 (flatK enc k d.toArray) cur, rfl, hb, ?_, hn, hm, by simpa [putCells] using hs, ?_⟩⟩
    · show (Array.modify w.heap g (onCells (putCells id 0 (flatK enc k d.toArray))) ++ os)[g]? = _
      rw [Array.getElem?_append_left (by simpa using hlt), Array.getElem?_modify, if_pos rfl, hg]; rfl
    · apply List.ext_getElem?
      intro j
      rw [← flatK_list hk h0, List.getElem?_take, Array.getElem?_toList, Array.getElem?_toList]
      by_cases hj : j < n * k
      · have hjc : j < cur.size := by have := Nat.mul_le_mul_right k hn; omega
        have hjf : j < (flatK enc k d.toArray).size := by simpa [hd] using hj
        simp only [if_pos hj, putCells, Array.getElem?_mapIdx, Array.getElem?_eq_getElem hjc, Option.map_some]
        rw [if_pos (by omega), Array.getElem?_eq_getElem hjf]
        rw [Nat.sub_zero, getElem!_pos _ j hjf]; rfl
      · rw [if_neg hj, Array.getElem?_eq_none (by simp [hd]; omega)]
theorem mut_sorted {α : Type} [Inhabited α] (enc : α → List Value) (k : Nat) (w : World) (g q : Nat) (d : Array α) (os : Array Obj) : Mut w (sortWorldK enc k w g 0 q d os) [g] :=
  ⟨rfl, rfl, rfl, by simp [sortWorldK, putRowK, putRow, mapBlock, Sort.ahead], fun j hj hn => by
    have hne : g ≠ j := fun h => hn (by simp [h])
    show (Array.modify w.heap g (onCells (putCells id 0 (flatK enc k d))) ++ os)[j]? = _
    rw [Array.getElem?_append_left (by simpa using hj), Array.getElem?_modify, if_neg hne]⟩
theorem cf3_lt (x y : Q3) : Go.Proofs.ltOf cf3 x y = true ↔ q3lt x y := by
  rw [Go.Proofs.ltOf, decide_eq_true_iff, cf3, orI, cmpI, cmpI, q3lt]
  split <;> split <;> (try split) <;> (try split) <;> omega
theorem cf3_nlt (x y : Q3) : Go.Proofs.ltOf cf3 x y = false ↔ ¬ q3lt x y := by rw [← cf3_lt, Bool.not_eq_true]
theorem cf3_swo : SWO (Go.Proofs.ltOf cf3) := by
  constructor
  · intro x; rw [cf3_nlt, q3lt]; omega
  · intro x y z; rw [cf3_lt, cf3_lt, cf3_lt, q3lt, q3lt, q3lt]; omega
  · intro x y z; rw [cf3_nlt, cf3_nlt, cf3_nlt, q3lt, q3lt, q3lt]; omega
theorem enc3_one (x : Q3) : ∀ v ∈ enc3 x, v.oneCell' = true := by intro v hv; simp [enc3] at hv; rcases hv with rfl | rfl | rfl <;> rfl
theorem sorted_pair {lt : Q3 → Q3 → Bool} {d : Array Q3} (h : SortedIn lt 0 d.size d) : d.toList.Pairwise fun x y => lt y x = false := by
  rw [List.pairwise_iff_getElem]
  intro i j hi hj hij
  have := h i j (Nat.zero_le _) hij (by simpa using hj)
  rwa [getElem!_pos d i (by simpa using hi), getElem!_pos d j (by simpa using hj)] at this
theorem sortC_any (g n c base : Nat) (e : TypeId) (l : List Q3) (w : World) (hl : l.length = n) (ho : w.ownsRow base e 3 (.slice (some ⟨g, 0, none⟩) n c) n (l.flatMap enc3)) (hn : n ≤ 1048576) :
    Calls Try.prog 102 #[.slice (some ⟨g, 0, none⟩) n c, .func (.func 103) #[] #[]] w
      fun e' w' => e' = .returned (.tuple #[]) ∧ ∃ d : List Q3, d.Perm l ∧ (d.Pairwise fun x y => ¬ q3lt y x) ∧ w'.ownsRow base e 3 (.slice (some ⟨g, 0, none⟩) n c) n (d.flatMap enc3) ∧ Mut w w' [g] := by
  subst hl
  have hc := AnyQ.slices_SortFunc (P := Try.prog) Try.sortC 3 Try.isAgg71 Try.sizeOf71 enc3 enc3_len enc3_one cf3 cf3_swo 103 #[] g 0 c l.toArray w
    (enters_of Try.func103 (by kernel_rfl) rfl) (fun m os dk _ x y => closure_any x y _) (holdsK_of enc3_len (by omega) rfl ho) (owns_lt ho).2 (by simp; omega)
  refine hc.mono ?_
  rintro e' w' ⟨rfl, d', q, os, hp, hs, rfl⟩
  have hsz : d'.size = l.length := by simpa using hp.1
  have hperm : d'.toList.Perm l := by
    have := hp.2.2
    rw [show (l.toArray.size) = d'.size by simpa using hsz.symm, Array.extract_size] at this
    rw [hsz, show l.length = l.toArray.size by simp, Array.extract_size] at this
    simpa using this
  refine ⟨rfl, d'.toList, hperm, ?_, ?_, mut_sorted _ _ _ _ _ _ _⟩
  · have h2 := sorted_pair (lt := Go.Proofs.ltOf cf3) (d := d') (by rw [hsz]; simpa using hs)
    exact h2.imp fun {x y} h => (cf3_nlt _ _).1 h
  · have := owns_sorted enc3_len (by omega) (q := q) (d := d'.toList) (by simpa using hsz) ho os
    simpa using this
end Go.Proofs.Ytnhiepgfgnemkaa
