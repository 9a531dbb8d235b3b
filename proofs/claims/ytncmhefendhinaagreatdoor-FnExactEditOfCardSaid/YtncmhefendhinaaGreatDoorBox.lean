/- Blocks of the call's own, known whole: made, kept, written. No condition. -/
import Derived.Test.YtncmhefendhinaaGreatDoorLib
namespace Go.Proofs.YtncmhefendhinaaGreatDoor
open Go.RowKit

/-- Block B holds just these cells. -/
def Blk (w : World) (B : Nat) (cs : List Value) (t : TypeId) : Prop := w.heap[B]? = some (.cells cs.toArray t (0, 0))
theorem heap_new (w : World) (o : Obj) : (w.alloc o).heap[w.heap.size]? = some o := heap_alloc_new w o
theorem heap_old {w : World} (o : Obj) {B : Nat} {x : Obj} (h : w.heap[B]? = some x) : (w.alloc o).heap[B]? = some x := by
  have hb : B < w.heap.size := by
    rcases Nat.lt_or_ge B w.heap.size with h' | h'
    · exact h'
    · rw [Array.getElem?_eq_none h'] at h; cases h
  rw [Below.heap_alloc _ _ _ hb]; exact h
section
variable {w w' : World} {B C : Nat} {cs ds : List Value} {t u : TypeId}
theorem Blk.lt (h : Blk w B cs t) : B < w.heap.size := by
  rcases Nat.lt_or_ge B w.heap.size with h' | h'
  · exact h'
  · rw [Blk, Array.getElem?_eq_none h'] at h; cases h
theorem Blk.new (w : World) (cs : List Value) (t : TypeId) : Blk (w.alloc (.cells cs.toArray t)) w.heap.size cs t := heap_new _ _
theorem Blk.ext (h : Blk w B cs t) (hE : Ext w w') : Blk w' B cs t := (hE.block B h.lt).trans h
theorem Blk.alloc (h : Blk w B cs t) (o : Obj) : Blk (w.alloc o) B cs t := heap_old o h
theorem Blk.drew (h : Blk w B cs t) : Blk w.drew B cs t := h
theorem Blk.cells (h : Blk w B cs t) : ∀ j, w.cell? ⟨B, j, none⟩ = cs[j]? := fun j => by
  rw [Blk] at h
  simp [World.cell?, h]
theorem Blk.free (h : Blk w B cs t) : ∀ j, w.frozen? ⟨B, j, none⟩ = false := fun j => by
  rw [Blk] at h
  simp [World.frozen?, h]
theorem Blk.set (h : Blk w B cs t) (j : Nat) (v : Value) : Blk (w.setCell ⟨B, j, none⟩ v) B (cs.set j v) t := by
  rw [Blk] at h ⊢
  simp [World.setCell, Array.getElem?_modify, h]
theorem Blk.other (h : Blk w C cs t) (j : Nat) (v : Value) (hne : C ≠ B) : Blk (w.setCell ⟨B, j, none⟩ v) C cs t := by
  rw [Blk] at h ⊢
  rw [Below.heap_setCell _ _ _ _ hne]; exact h
theorem owns_other {base : Nat} {e : TypeId} {size n : Nat} {v : Value} {xs : List Value} (h : w.ownsRow base e size v n xs) (hne : v.ownBlock ≠ some B) (j : Nat) (x : Value) :
    (w.setCell ⟨B, j, none⟩ x).ownsRow base e size v n xs :=
  h.kept (row := some B) ⟨rfl, rfl, rfl, by simp [World.setCell], fun k _ hk => Below.heap_setCell _ _ _ _ (fun hh => hk (by rw [hh]))⟩ (Or.inr hne)
theorem SlT.other {α : Type} {enc : α → List Value} {sz n : Nat} {p : Option Addr} {l : List α} (h : SlT enc sz w p n l) (j : Nat) (x : Value) (hne : ∀ a, p = some a → a.block ≠ B) : SlT enc sz (w.setCell ⟨B, j, none⟩ x) p n l := by
  obtain ⟨h1, h2⟩ := h
  refine ⟨h1, ?_⟩
  rcases h2 with h2 | ⟨b, off, hp, hb, hc⟩
  · exact Or.inl h2
  · refine Or.inr ⟨b, off, hp, by simpa [World.setCell] using hb, fun k y hy i v hv => ?_⟩
    rw [World.cell?_of_block (w := w) (a := ⟨b, off + k * sz + i, none⟩) (Below.heap_setCell _ _ _ _ (hne _ hp))]
    exact hc k y hy i v hv
end
theorem boxes1 {w W : World} {o1 : Obj} (h : w.alloc o1 = W) : Ext w W ∧ W.heap.size = w.heap.size + 1 ∧ W.heap[w.heap.size]? = some o1 := by
  subst h; exact ⟨(Ext.refl _).alloc _, by simp, heap_new _ _⟩
theorem boxes2 {w W : World} {o1 o2 : Obj} (h : (w.alloc o1).alloc o2 = W) : Ext w W ∧ W.heap.size = w.heap.size + 2 ∧ W.heap[w.heap.size]? = some o1 ∧ W.heap[w.heap.size + 1]? = some o2 := by
  subst h
  refine ⟨((Ext.refl _).alloc _).alloc _, by simp, heap_old _ (heap_new _ _), ?_⟩
  have := heap_new (w.alloc o1) o2
  simpa using this
theorem boxes3 {w W : World} {o1 o2 o3 : Obj} (h : ((w.alloc o1).alloc o2).alloc o3 = W) :
    Ext w W ∧ W.heap.size = w.heap.size + 3 ∧ W.heap[w.heap.size]? = some o1 ∧ W.heap[w.heap.size + 1]? = some o2 ∧ W.heap[w.heap.size + 1 + 1]? = some o3 := by
  subst h
  obtain ⟨hE, hs, h1, h2⟩ := boxes2 (w := w) (o1 := o1) (o2 := o2) rfl
  refine ⟨hE.alloc _, by simp, heap_old _ h1, heap_old _ h2, ?_⟩
  have := heap_new ((w.alloc o1).alloc o2) o3
  simpa using this
end Go.Proofs.YtncmhefendhinaaGreatDoor
