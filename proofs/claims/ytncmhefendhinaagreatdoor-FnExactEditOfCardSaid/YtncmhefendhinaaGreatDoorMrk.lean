/- Contracts of the laws' mark and held functions: mark writes running numbers into a row, held finds them there. Condition: rows of less than 2^20 elements. -/
import Derived.Test.YtncmhefendhinaaGreatDoorBox
import Derived.Test.YtncmhefendhinaaGreatDoorArr
import Derived.Test.YtncmhefendhinaaGreatDoorOpn
namespace Go.Proofs.YtncmhefendhinaaGreatDoor
open Go.RowKit

/-- w' is w with new blocks and writes to the blocks S alone. -/
structure Mut (w w' : World) (S : List Nat) : Prop where
  os : w'.os = w.os
  tape : w'.tape = w.tape
  output : w'.output = w.output
  size : w.heap.size ≤ w'.heap.size
  block : ∀ k, k < w.heap.size → k ∉ S → w'.heap[k]? = w.heap[k]?
theorem Mut.refl (w : World) (S : List Nat) : Mut w w S := ⟨rfl, rfl, rfl, Nat.le_refl _, fun _ _ _ => rfl⟩
theorem Mut.trans {a b c : World} {S T : List Nat} (h : Mut a b S) (k : Mut b c T) : Mut a c (S ++ T) :=
  ⟨k.os.trans h.os, k.tape.trans h.tape, k.output.trans h.output, Nat.le_trans h.size k.size, fun i hi hn =>
    (k.block i (Nat.lt_of_lt_of_le hi h.size) (fun hh => hn (List.mem_append.2 (Or.inr hh)))).trans (h.block i hi (fun hh => hn (List.mem_append.2 (Or.inl hh))))⟩
theorem Mut.same {a b c : World} {S : List Nat} (h : Mut a b S) (k : Mut b c S) : Mut a c S :=
  ⟨k.os.trans h.os, k.tape.trans h.tape, k.output.trans h.output, Nat.le_trans h.size k.size, fun i hi hn => (k.block i (Nat.lt_of_lt_of_le hi h.size) hn).trans (h.block i hi hn)⟩
theorem Mut.setCell {a b : World} {S : List Nat} (h : Mut a b S) {p : Addr} (hp : p.block ∈ S) (u : Value) : Mut a (b.setCell p u) S :=
  h.same ⟨rfl, rfl, rfl, by simp [World.setCell], fun k _ hk => Below.heap_setCell _ _ _ _ (fun e => hk (e ▸ hp))⟩
theorem Ext.mut {w w' : World} (h : Ext w w') (S : List Nat) : Mut w w' S := ⟨h.os, h.tape, h.output, h.size, fun k hk _ => h.block k hk⟩
theorem Ext.then {a w w' : World} {S : List Nat} (h : Ext a w) (m : Mut w w' S) (hS : ∀ k ∈ S, a.heap.size ≤ k) : Ext a w' :=
  Below.trans h ⟨m.os, m.tape, m.output, m.size, fun k hk => m.block k (Nat.lt_of_lt_of_le hk h.size) (fun hh => by have := hS k hh; omega)⟩
theorem Mut.grownBy {w w' : World} {S : List Nat} (m : Mut w w' S) {v : Value} (h : ∀ g, v.ownBlock = some g → g ∉ S) {base : Nat} {e : TypeId} {size n : Nat} {xs : List Value} (ho : w.ownsRow base e size v n xs) : w'.ownsRow base e size v n xs := by
  obtain ⟨h1, h2⟩ := ho
  refine ⟨h1, ?_⟩
  rcases h2 with h2 | ⟨g, cap, cur, rfl, hg, hh, hc, hm, hs, ht⟩
  · exact Or.inl h2
  · refine Or.inr ⟨g, cap, cur, rfl, hg, ?_, hc, hm, hs, ht⟩
    rw [m.block g ?_ (h g rfl)]
    · exact hh
    · rcases Nat.lt_or_ge g w.heap.size with h' | h'
      · exact h'
      · rw [Array.getElem?_eq_none h'] at hh; cases hh
theorem Blk.mut {w w' : World} {S : List Nat} {B : Nat} {cs : List Value} {t : TypeId} (h : Blk w B cs t) (m : Mut w w' S) (hB : B ∉ S) : Blk w' B cs t := (m.block B h.lt hB).trans h
theorem SlT.mut {α : Type} {enc : α → List Value} {sz n : Nat} {p : Option Addr} {l : List α} {w w' : World} {S : List Nat} (h : SlT enc sz w p n l) (m : Mut w w' S) (hp : ∀ a, p = some a → a.block ∉ S) : SlT enc sz w' p n l := by
  obtain ⟨h1, h2⟩ := h
  refine ⟨h1, ?_⟩
  rcases h2 with h2 | ⟨b, off, hp', hb, hc⟩
  · exact Or.inl h2
  · refine Or.inr ⟨b, off, hp', Nat.lt_of_lt_of_le hb m.size, fun k y hy i v hv => ?_⟩
    rw [World.cell?_of_block (w := w) (a := ⟨b, off + k * sz + i, none⟩) (m.block b hb (hp _ hp'))]
    exact hc k y hy i v hv
/-- The block of a slice's cells. -/
def blkOf (q : Option Addr) : List Nat := match q with | some a => [a.block] | none => []
theorem mem_blkOf {q : Option Addr} {k : Nat} : k ∈ blkOf q ↔ ∃ a, q = some a ∧ a.block = k := by
  cases q with
  | none => simp [blkOf]
  | some a => simp [blkOf, eq_comm]
theorem own_blkOf {q : Option Addr} {n c : Nat} : (Value.slice q n c).ownBlock = q.map (·.block) := by cases q <;> rfl
theorem owns_ge {w : World} {base : Nat} {e : TypeId} {size n c : Nat} {q : Option Addr} {xs : List Value} (h : w.ownsRow base e size (.slice q n c) n xs) : ∀ k ∈ blkOf q, base ≤ k ∧ k < w.heap.size := by
  intro k hk
  obtain ⟨a, rfl, rfl⟩ := mem_blkOf.1 hk
  exact h.lt _ rfl
/-- Running numbers. -/
def marks (k : Int) (m : Nat) : List Value := (List.range m).map fun i : Nat => Value.int .i64 (k + (i : Int))
theorem marks_len (k : Int) (m : Nat) : (marks k m).length = m := by simp [marks]
theorem marks_at {k : Int} {m j : Nat} (h : j < m) : (marks k m)[j]? = some (.int .i64 (k + j)) := by
  rw [marks, List.getElem?_map, List.getElem?_range h]; rfl
theorem marks_set {k : Int} {j : Nat} {xs : List Value} (h : j < xs.length) : (marks k j ++ xs.drop j).set j (.int .i64 (k + j)) = marks k (j + 1) ++ xs.drop (j + 1) := by
  rw [List.set_append_right _ _ (by rw [marks_len]; exact Nat.le_refl _), marks_len, Nat.sub_self, List.drop_eq_getElem_cons h, List.set_cons_zero]
  simp only [marks, List.range_succ, List.map_append, List.map_cons, List.map_nil, List.append_assoc, List.singleton_append]
theorem owns_some {w : World} {base : Nat} {e : TypeId} {size n c : Nat} {q : Option Addr} {xs : List Value} (h : w.ownsRow base e size (.slice q n c) n xs) (hn : 0 < n) : ∃ g, q = some ⟨g, 0, none⟩ := by
  obtain ⟨g, cap, hv⟩ := Joins.ownsRow_form h hn
  cases hv
  exact ⟨g, rfl⟩

end Go.Proofs.YtncmhefendhinaaGreatDoor
