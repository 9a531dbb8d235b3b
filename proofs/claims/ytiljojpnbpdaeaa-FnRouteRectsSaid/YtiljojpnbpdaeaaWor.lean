/- Worlds that have grown out of others but for some blocks; rows of the call's own; slices from a place on; a region cut from what follows it. No condition. -/
import Derived.Test.YtiljojpnbpdaeaaBox
import Derived.Test.YtiljojpnbpdaeaaOpn
import Derived.Laws.AppendOwnNone
import Derived.Lib.AppendZeros
import Derived.RegionTactic
import Derived.StillTailTactics
import Derived.IntWalk
import Derived.Maps.AppendAt
namespace Go.Proofs.Ytiljojpnbpdaeaa
open Go.RowKit


/-- w' is w with new blocks and writes to the blocks S alone. -/
structure Mut (w w' : World) (S : List Nat) : Prop where
  os : w'.os = w.os
  tape : w'.tape = w.tape
  output : w'.output = w.output
  size : w.heap.size ≤ w'.heap.size
  block : ∀ k, k < w.heap.size → k ∉ S → w'.heap[k]? = w.heap[k]?
theorem Mut.refl (w : World) (S : List Nat) : Mut w w S := ⟨rfl, rfl, rfl, Nat.le_refl _, fun _ _ _ => rfl⟩
theorem Mut.trans {a b c : World} {S T : List Nat} (h : Mut a b S) (k : Mut b c T) : Mut a c (S ++ T) :=
  ⟨k.os.trans h.os, k.tape.trans h.tape, k.output.trans h.output, Nat.le_trans h.size k.size, fun i hi hn =>
    (k.block i (Nat.lt_of_lt_of_le hi h.size) (fun hh => hn (List.mem_append.2 (Or.inr hh)))).trans (h.block i hi (fun hh => hn (List.mem_append.2 (Or.inl hh))))⟩
theorem Mut.same {a b c : World} {S : List Nat} (h : Mut a b S) (k : Mut b c S) : Mut a c S :=
  ⟨k.os.trans h.os, k.tape.trans h.tape, k.output.trans h.output, Nat.le_trans h.size k.size, fun i hi hn => (k.block i (Nat.lt_of_lt_of_le hi h.size) hn).trans (h.block i hi hn)⟩
theorem Mut.setCell {a b : World} {S : List Nat} (h : Mut a b S) {p : Addr} (hp : p.block ∈ S) (u : Value) : Mut a (b.setCell p u) S :=
  h.same ⟨rfl, rfl, rfl, by simp [World.setCell], fun k _ hk => Below.heap_setCell _ _ _ _ (fun e => hk (e ▸ hp))⟩
theorem Ext.mut {w w' : World} (h : Ext w w') (S : List Nat) : Mut w w' S := ⟨h.os, h.tape, h.output, h.size, fun k hk _ => h.block k hk⟩
theorem Ext.then {a w w' : World} {S : List Nat} (h : Ext a w) (m : Mut w w' S) (hS : ∀ k ∈ S, a.heap.size ≤ k) : Ext a w' :=
  Below.trans h ⟨m.os, m.tape, m.output, m.size, fun k hk => m.block k (Nat.lt_of_lt_of_le hk h.size) (fun hh => by have := hS k hh; omega)⟩
theorem Mut.grownBy {w w' : World} {S : List Nat} (m : Mut w w' S) {v : Value} (h : ∀ g, v.ownBlock = some g → g ∉ S) {base : Nat} {e : TypeId} {size n : Nat} {xs : List Value} (ho : w.ownsRow base e size v n xs) : w'.ownsRow base e size v n xs := by
  obtain ⟨h1, h2⟩ := ho
  refine ⟨h1, ?_⟩
  rcases h2 with h2 | ⟨g, cap, cur, rfl, hg, hh, hc, hm, hs, ht⟩
  · exact Or.inl h2
  · refine Or.inr ⟨g, cap, cur, rfl, hg, ?_, hc, hm, hs, ht⟩
    rw [m.block g ?_ (h g rfl)]
    · exact hh
    · rcases Nat.lt_or_ge g w.heap.size with h' | h'
      · exact h'
      · rw [Array.getElem?_eq_none h'] at hh; cases hh
theorem Blk.mut {w w' : World} {S : List Nat} {B : Nat} {cs : List Value} {t : TypeId} (h : Blk w B cs t) (m : Mut w w' S) (hB : B ∉ S) : Blk w' B cs t := (m.block B h.lt hB).trans h
theorem SlT.mut {α : Type} {enc : α → List Value} {sz n : Nat} {p : Option Addr} {l : List α} {w w' : World} {S : List Nat} (h : SlT enc sz w p n l) (m : Mut w w' S) (hp : ∀ a, p = some a → a.block ∉ S) : SlT enc sz w' p n l := by
  obtain ⟨h1, h2⟩ := h
  refine ⟨h1, ?_⟩
  rcases h2 with h2 | ⟨b, off, hp', hb, hc⟩
  · exact Or.inl h2
  · refine Or.inr ⟨b, off, hp', Nat.lt_of_lt_of_le hb m.size, fun k y hy i v hv => ?_⟩
    rw [World.cell?_of_block (w := w) (a := ⟨b, off + k * sz + i, none⟩) (m.block b hb (hp _ hp'))]
    exact hc k y hy i v hv
/-- The block of a slice's cells. -/
def blkOf (q : Option Addr) : List Nat := match q with | some a => [a.block] | none => []
theorem mem_blkOf {q : Option Addr} {k : Nat} : k ∈ blkOf q ↔ ∃ a, q = some a ∧ a.block = k := by
  cases q with
  | none => simp [blkOf]
  | some a => simp [blkOf, eq_comm]
theorem own_blkOf {q : Option Addr} {n c : Nat} : (Value.slice q n c).ownBlock = q.map (·.block) := by cases q <;> rfl
theorem owns_ge {w : World} {base : Nat} {e : TypeId} {size n c : Nat} {q : Option Addr} {xs : List Value} (h : w.ownsRow base e size (.slice q n c) n xs) : ∀ k ∈ blkOf q, base ≤ k ∧ k < w.heap.size := by
  intro k hk
  obtain ⟨a, rfl, rfl⟩ := mem_blkOf.1 hk
  exact h.lt _ rfl
/-- Running numbers. -/
def marks (k : Int) (m : Nat) : List Value := (List.range m).map fun i : Nat => Value.int .i64 (k + (i : Int))
theorem marks_len (k : Int) (m : Nat) : (marks k m).length = m := by simp [marks]
theorem marks_at {k : Int} {m j : Nat} (h : j < m) : (marks k m)[j]? = some (.int .i64 (k + j)) := by
  rw [marks, List.getElem?_map, List.getElem?_range h]; rfl
theorem marks_set {k : Int} {j : Nat} {xs : List Value} (h : j < xs.length) : (marks k j ++ xs.drop j).set j (.int .i64 (k + j)) = marks k (j + 1) ++ xs.drop (j + 1) := by
  rw [List.set_append_right _ _ (by rw [marks_len]; exact Nat.le_refl _), marks_len, Nat.sub_self, List.drop_eq_getElem_cons h, List.set_cons_zero]
  simp only [marks, List.range_succ, List.map_append, List.map_cons, List.map_nil, List.append_assoc, List.singleton_append]
theorem owns_some {w : World} {base : Nat} {e : TypeId} {size n c : Nat} {q : Option Addr} {xs : List Value} (h : w.ownsRow base e size (.slice q n c) n xs) (hn : 0 < n) : ∃ g, q = some ⟨g, 0, none⟩ := by
  obtain ⟨g, cap, hv⟩ := Joins.ownsRow_form h hn
  cases hv
  exact ⟨g, rfl⟩

def ints (xs : List Int) : List Value := xs.map (Value.int .i64)
theorem Mut.drew {a b : World} {S : List Nat} (h : Mut a b S) : Mut a b.drew S := ⟨h.os, h.tape, h.output, h.size, h.block⟩
theorem cells_new (w : World) (cs : List Value) (t : TypeId) : ∀ j u, cs[j]? = some u → (w.alloc (.cells cs.toArray t)).cell? ((⟨w.heap.size, 0, none⟩ : Addr).add j) = some u := by
  intro j u h
  rw [Addr.add_lit, Nat.zero_add, (Blk.new w cs t).cells j]; exact h
theorem getD_of {α : Type} {l : List α} {k : Nat} {x d : α} (h : l[k]? = some x) : l.getD k d = x := by rw [List.getD_eq_getElem?_getD, h]; rfl
theorem owns_forms {w : World} {base size n : Nat} {e : TypeId} {v : Value} {xs : List Value} (h : w.ownsRow base e size v n xs) : ∃ q c, v = .slice q n c := by
  rcases Joins.ownsRow_forms h with ⟨rfl, rfl⟩ | ⟨g, c, rfl⟩
  · exact ⟨_, _, rfl⟩
  · exact ⟨_, _, rfl⟩
theorem flat1 (l : List Int) : l.flatMap enc1 = l.map (Value.int .i64) := by
  induction l with
  | nil => rfl
  | cons x l ih => rw [List.flatMap_cons, ih]; rfl
theorem one_flat1 (l : List Int) : ∀ u ∈ l.flatMap enc1, u.oneCell' = true := by
  intro u hu
  rw [flat1, List.mem_map] at hu
  obtain ⟨x, _, rfl⟩ := hu
  rfl
theorem owns_cap {w : World} {base : Nat} {e : TypeId} {size n c : Nat} {q : Option Addr} {xs : List Value} (h : w.ownsRow base e size (.slice q n c) n xs) : n ≤ c := by
  rcases h.2 with ⟨hv, h0⟩ | ⟨g, cap, cur, hv, _, _, hc, _⟩
  · omega
  · cases hv; exact hc
theorem SlT.drop {α : Type} {enc : α → List Value} {sz : Nat} {w : World} {b off n : Nat} {l : List α} (h : SlT enc sz w (some ⟨b, off, none⟩) n l) (k : Nat) : SlT enc sz w (some ⟨b, off + k * sz, none⟩) (n - k) (l.drop k) := by
  obtain ⟨h1, h2⟩ := h
  refine ⟨by rw [List.length_drop, h1], ?_⟩
  rcases h2 with h2 | ⟨b', off', hp, hb, hc⟩
  · exact Or.inl (by omega)
  · cases hp
    refine Or.inr ⟨b, _, rfl, hb, fun i x hx j v hv => ?_⟩
    rw [List.getElem?_drop] at hx
    have := hc (k + i) x hx j v hv
    rw [Nat.add_mul] at this
    rw [← this]
    congr 2
    omega
theorem add_plain (b off k : Nat) : (⟨b, off, none⟩ : Addr).add k = ⟨b, off + k, none⟩ := by simp [Addr.add]
/-- s[k:], whatever the capacity. -/
theorem wpList_slice_from {P : Program} (w : World) {ops : Array Oper} {rest : List Oper} {o : Oper} {a : Act} {Q : Exit → Act → World → Prop}
    (hg : o.guard = none) (x lo : Operand) (t : TypeId) (hop : o.op = Op.slice t x (some lo) none none) (e : TypeId) (ht : P.underlying t = some (.slice e)) (sz : Nat) (hs : (sizeOf e).run P w = .ok sz w)
    (b off n c : Nat) (hx : a.eval x = .slice (some ⟨b, off, none⟩) n c) (L : Int) (hl : a.eval lo = .int .i64 L) (k : Nat) (hL : L = k) (m : Nat) (hm : m + k = n) (hc : n ≤ c)
    (hK : ∀ off' c', m ≤ c' → (∀ {α : Type} (enc : α → List Value) (l : List α) (W : World), SlT enc sz W (some ⟨b, off, none⟩) n l → SlT enc sz W (some ⟨b, off', none⟩) m (l.drop k)) → wpList P ops Q rest (a.put o.dst (.slice (some ⟨b, off', none⟩) m c')) w) :
    wpList P ops Q (o :: rest) a w := by
  refine wpList_plain hg fun K hK' => ?_
  subst hL
  obtain rfl : m = n - k := by omega
  have hk : k ≤ n := by omega
  have he : P.elem t = e := by simp [Program.elem, ht]
  rw [← he] at ht hs
  have h0 : (0 : Int) ≤ k := by omega
  have h1 : (k : Int) ≤ n := by omega
  unfold Oper.wp
  by_cases hkc : c = k
  · have h := hK off (c - k) (by omega) (fun enc l W hS => ⟨by rw [List.length_drop, hS.length], Or.inl (by omega)⟩)
    subst hkc
    simp [execOp, hop, hx, hl, run_sliceAt_slice w t _ _ _ _ ht, run_slice_l w t _ n c ht .i64 c h0 h1, hs, Result.andThen, sliced]
    simp only [Nat.sub_self] at h
    exact hK' _ _ h
  · have h := hK (off + k * sz) (c - k) (by omega) (fun enc l W hS => hS.drop k)
    simp [execOp, hop, hx, hl, run_sliceAt_slice w t _ _ _ _ ht, run_slice_l w t _ n c ht .i64 k h0 h1, hs, Result.andThen, sliced, hkc]
    rw [add_plain]; exact hK' _ _ h
theorem ints_len (l : List Int) : (ints l).length = l.length := by simp [ints]
theorem Mut.ext {a b c : World} {S : List Nat} (h : Mut a b S) (k : Ext b c) : Mut a c S := Mut.same h (k.mut S)
theorem Mut.alloc {a b : World} {S : List Nat} (h : Mut a b S) (o : Obj) : Mut a (b.alloc o) S := h.ext ((Ext.refl _).alloc o)
theorem one_int1 (v : Int) : ∀ u ∈ [Value.int .i64 v], u.oneCell' = true := fun u hu => by simp at hu; subst hu; rfl
theorem cells_new1 (w : World) (v : Value) (t : TypeId) : ∀ j u, [v][j]? = some u → (w.alloc (.cells #[v] t)).cell? ((⟨w.heap.size, 0, none⟩ : Addr).add j) = some u := cells_new w [v] t
theorem len_le {k m : Nat} (h : k ≤ 1048576) (hm : m ≤ 1048576) : k + m ≤ maxLen := by unfold maxLen; omega
/-- The slice lies in block B or in memory younger than w0. -/
def Fresh (w0 : World) (B : Nat) (v : Value) : Prop := ∀ k, v.ownBlock = some k → k = B ∨ w0.heap.size ≤ k
theorem Mut.append {w0 w w' : World} {B : Nat} {v : Value} (hM : Mut w0 w [B]) (hv : Fresh w0 B v) (hg : w.grownBy w' v.ownBlock) : Mut w0 w' [B] :=
  ⟨hg.os.trans hM.os, hg.tape.trans hM.tape, hg.output.trans hM.output, Nat.le_trans hM.size hg.size, fun k hk hn => by
    rw [hg.block k (Nat.lt_of_lt_of_le hk hM.size) (fun h => (hv k h.symm).elim (fun e => hn (by rw [e]; exact List.mem_singleton.2 rfl)) (fun h' => by omega))]
    exact hM.block k hk hn⟩
theorem Fresh.append {w0 w : World} {B : Nat} {v v' : Value} (hv : Fresh w0 B v) (hM : Mut w0 w [B]) (h : v'.ownBlock = v.ownBlock ∨ v'.ownBlock = some w.heap.size) : Fresh w0 B v' := fun k hk => by
  rcases h with h | h
  · rw [h] at hk; exact hv k hk
  · rw [h] at hk; cases hk; exact Or.inr hM.size
theorem one_int4 (a b c d : Int) : ∀ u ∈ [Value.int .i64 a, .int .i64 b, .int .i64 c, .int .i64 d], u.oneCell' = true := fun u hu => by simp at hu; rcases hu with rfl | rfl | rfl | rfl <;> rfl
theorem Mut.young {w0 w w' : World} {B : Nat} {v : Value} (hM : Mut w0 w [B]) (hv : ∀ k, v.ownBlock = some k → w0.heap.size ≤ k) (hg : w.grownBy w' v.ownBlock) : Mut w0 w' [B] := hM.append (fun k hk => Or.inr (hv k hk)) hg
theorem Mut.own {w w' : World} {B base n size : Nat} {e : TypeId} {v : Value} {xs : List Value} (M : Mut w w' [B]) (hB : B < base) (ho : w.ownsRow base e size v n xs) : w'.ownsRow base e size v n xs :=
  M.grownBy (fun g hg hh => by have := (ho.lt g hg).1; simp at hh; omega) ho
theorem Mut.cellk {w w' : World} {S : List Nat} {b : Nat} (m : Mut w w' S) (hn : b ∉ S) (hb : b < w.heap.size) (j : Nat) : w'.cell? ⟨b, j, none⟩ = w.cell? ⟨b, j, none⟩ := World.cell?_of_block (w := w) (a := ⟨b, j, none⟩) (m.block b hb hn)
theorem Mut.setYoung {a b : World} {S : List Nat} (h : Mut a b S) {g j : Nat} (hg : a.heap.size ≤ g) (u : Value) : Mut a (b.setCell ⟨g, j, none⟩ u) S :=
  ⟨h.os, h.tape, h.output, by have := h.size; simp [World.setCell]; omega, fun k hk hn => (Below.heap_setCell _ _ _ _ (fun e => by have e' : k = g := e; omega)).trans (h.block k hk hn)⟩
theorem SlT.mutNe {α : Type} {enc : α → List Value} {sz n : Nat} {q : Option Addr} {l : List α} {w w' : World} {B : Nat} (h : SlT enc sz w q n l) (m : Mut w w' [B]) (hq : ∀ a, q = some a → n = 0 ∨ a.block < B) : SlT enc sz w' q n l := by
  rcases h.2 with h0 | ⟨b, off, hp, hb, hc⟩
  · exact ⟨h.1, Or.inl h0⟩
  · by_cases h0 : n = 0
    · exact ⟨h.1, Or.inl h0⟩
    · refine h.mut m fun a ha => ?_
      rcases hq a ha with h1 | h1
      · exact absurd h1 h0
      · simp; omega
/-- A region, and what follows it, apart: Mid is what the region leaves. -/
theorem wp_cut {P : Program} {c : Code} {Q : Exit → Act → World → Prop} {a : Act} {w : World} (Mid : Act → Act → World → Prop) (h1 : c.wp P (fun e a' w' => match e with | .normal => Mid a a' w' | _ => False) a w) (h2 : ∀ a' w', Mid a a' w' → Q .normal a' w') : c.wp P Q a w :=
  Code.wp_mono (fun e _ _ hm => by cases e <;> first | exact h2 _ _ hm | exact (hm : False).elim) h1
end Go.Proofs.Ytiljojpnbpdaeaa
