/- Steps of the walk in uniform form: a slice cut at its front, rows of int64s told as functions. No condition. -/
import Derived.Test.YtnhiepgfgnemkaaRlx
import Derived.Maps.AppendAt
namespace Go.Proofs.Ytnhiepgfgnemkaa
open Go.RowKit

theorem owns_cap {w : World} {base : Nat} {e : TypeId} {size n c : Nat} {q : Option Addr} {xs : List Value} (h : w.ownsRow base e size (.slice q n c) n xs) : n ≤ c := by
  rcases h.2 with ⟨hv, h0⟩ | ⟨g, cap, cur, hv, _, _, hc, _⟩
  · omega
  · cases hv; exact hc
theorem SlT.drop {α : Type} {enc : α → List Value} {sz : Nat} {w : World} {b off n : Nat} {l : List α} (h : SlT enc sz w (some ⟨b, off, none⟩) n l) (k : Nat) : SlT enc sz w (some ⟨b, off + k * sz, none⟩) (n - k) (l.drop k) := by
  obtain ⟨h1, h2⟩ := h
  refine ⟨by rw [List.length_drop, h1], ?_⟩
  rcases h2 with h2 | ⟨b', off', hp, hb, hc⟩
  · exact Or.inl (by omega)
  · cases hp
    refine Or.inr ⟨b, _, rfl, hb, fun i x hx j v hv => ?_⟩
    rw [List.getElem?_drop] at hx
    have := hc (k + i) x hx j v hv
    rw [Nat.add_mul] at this
    rw [← this]
    congr 2
    omega
theorem add_plain (b off k : Nat) : (⟨b, off, none⟩ : Addr).add k = ⟨b, off + k, none⟩ := by simp [Addr.add]
/-- s[k:], whatever the capacity. -/
theorem wpList_slice_from {P : Program} (w : World) {ops : Array Oper} {rest : List Oper} {o : Oper} {a : Act} {Q : Exit → Act → World → Prop}
    (hg : o.guard = none) (x lo : Operand) (t : TypeId) (hop : o.op = Op.slice t x (some lo) none none) (e : TypeId) (ht : P.underlying t = some (.slice e)) (sz : Nat) (hs : (sizeOf e).run P w = .ok sz w)
    (b off n c : Nat) (hx : a.eval x = .slice (some ⟨b, off, none⟩) n c) (L : Int) (hl : a.eval lo = .int .i64 L) (k : Nat) (hL : L = k) (m : Nat) (hm : m + k = n) (hc : n ≤ c)
    (hK : ∀ off' c', m ≤ c' → (∀ {α : Type} (enc : α → List Value) (l : List α) (W : World), SlT enc sz W (some ⟨b, off, none⟩) n l → SlT enc sz W (some ⟨b, off', none⟩) m (l.drop k)) → wpList P ops Q rest (a.put o.dst (.slice (some ⟨b, off', none⟩) m c')) w) :
    wpList P ops Q (o :: rest) a w := by
  refine wpList_plain hg fun K hK' => ?_
  subst hL
  obtain rfl : m = n - k := by omega
  have hk : k ≤ n := by omega
  have he : P.elem t = e := by simp [Program.elem, ht]
  rw [← he] at ht hs
  have h0 : (0 : Int) ≤ k := by omega
  have h1 : (k : Int) ≤ n := by omega
  unfold Oper.wp
  by_cases hkc : c = k
  · have h := hK off (c - k) (by omega) (fun enc l W hS => ⟨by rw [List.length_drop, hS.length], Or.inl (by omega)⟩)
    subst hkc
    simp [execOp, hop, hx, hl, run_sliceAt_slice w t _ _ _ _ ht, run_slice_l w t _ n c ht .i64 c h0 h1, hs, Result.andThen, sliced]
    simp only [Nat.sub_self] at h
    exact hK' _ _ h
  · have h := hK (off + k * sz) (c - k) (by omega) (fun enc l W hS => hS.drop k)
    simp [execOp, hop, hx, hl, run_sliceAt_slice w t _ _ _ _ ht, run_slice_l w t _ n c ht .i64 k h0 h1, hs, Result.andThen, sliced, hkc]
    rw [add_plain]; exact hK' _ _ h
theorem ints_len (l : List Int) : (ints l).length = l.length := by simp [ints]
theorem tab_cell {w : World} {base n c g : Nat} {e : TypeId} {f : Int → Int} (h : w.ownsRow base e 1 (.slice (some ⟨g, 0, none⟩) n c) n (ints (tab n f))) {i : Nat} (hi : i < n) : w.cell? ⟨g, i, none⟩ = some (.int .i64 (f i)) := by
  rw [h.cellAt i (by omega), ints, List.getElem?_map, tab_get f hi]; rfl
theorem tab_store {w : World} {base n c g : Nat} {e : TypeId} {f : Int → Int} (h : w.ownsRow base e 1 (.slice (some ⟨g, 0, none⟩) n c) n (ints (tab n f))) (i : Nat) (v : Int) :
    (w.setCell ⟨g, i, none⟩ (.int .i64 v)).ownsRow base e 1 (.slice (some ⟨g, 0, none⟩) n c) n (ints (tab n (updI f i v))) := by
  have h2 := owns_set h i (.int .i64 v)
  rwa [show (ints (tab n f)).set i (.int .i64 v) = ints (tab n (updI f i v)) by rw [ints, ints, ← tab_set, List.map_set]] at h2
theorem tab_SlT {w : World} {base n c : Nat} {e : TypeId} {q : Option Addr} {f : Int → Int} (h : w.ownsRow base e 1 (.slice q n c) n (ints (tab n f))) : SlT enc1 1 w q n (tab n f) := by
  rw [ints, ← flat1] at h
  exact SlT.of_owns enc1_len (tab_len n f) h
theorem Mut.drewn {a b : World} {S : List Nat} (h : Mut a b S) : Mut a b.drew S := ⟨h.os, h.tape, h.output, h.size, h.block⟩
theorem Mut.ext {a b c : World} {S : List Nat} (h : Mut a b S) (k : Ext b c) : Mut a c S := Mut.same h (k.mut S)
theorem Mut.alloc {a b : World} {S : List Nat} (h : Mut a b S) (o : Obj) : Mut a (b.alloc o) S := h.ext ((Ext.refl _).alloc o)

theorem one_int1 (v : Int) : ∀ u ∈ [Value.int .i64 v], u.oneCell' = true := fun u hu => by simp at hu; subst hu; rfl
theorem cells_new1 (w : World) (v : Value) (t : TypeId) : ∀ j u, [v][j]? = some u → (w.alloc (.cells #[v] t)).cell? ((⟨w.heap.size, 0, none⟩ : Addr).add j) = some u := cells_new w [v] t
theorem len_le {k m : Nat} (h : k ≤ 1048576) (hm : m ≤ 1048576) : k + m ≤ maxLen := by unfold maxLen; omega
theorem rlx_if {f : Int → Int} {e : Q3} {A B : Int} (ha : e.a = A) (hb : e.b = B) : rlx f e = updI f B (if f B < f A + e.c then f A + e.c else f B) := by
  subst ha hb
  rw [Go.Proofs.Ytnhiepgfgnemkaa.rlx]; congr 1; split <;> omega
/-- The slice lies in block B or in memory younger than w0. -/
def Fresh (w0 : World) (B : Nat) (v : Value) : Prop := ∀ k, v.ownBlock = some k → k = B ∨ w0.heap.size ≤ k
theorem Mut.append {w0 w w' : World} {B : Nat} {v : Value} (hM : Mut w0 w [B]) (hv : Fresh w0 B v) (hg : w.grownBy w' v.ownBlock) : Mut w0 w' [B] :=
  ⟨hg.os.trans hM.os, hg.tape.trans hM.tape, hg.output.trans hM.output, Nat.le_trans hM.size hg.size, fun k hk hn => by
    rw [hg.block k (Nat.lt_of_lt_of_le hk hM.size) (fun h => (hv k h.symm).elim (fun e => hn (by rw [e]; exact List.mem_singleton.2 rfl)) (fun h' => by omega))]
    exact hM.block k hk hn⟩
theorem Fresh.append {w0 w : World} {B : Nat} {v v' : Value} (hv : Fresh w0 B v) (hM : Mut w0 w [B]) (h : v'.ownBlock = v.ownBlock ∨ v'.ownBlock = some w.heap.size) : Fresh w0 B v' := fun k hk => by
  rcases h with h | h
  · rw [h] at hk; exact hv k hk
  · rw [h] at hk; cases hk; exact Or.inr hM.size
/-- Every value lies between L and U. -/
def Btw (f : Int → Int) (L U : Int) : Prop := ∀ i, L ≤ f i ∧ f i ≤ U
theorem Btw.rlx {f : Int → Int} {L U : Int} (h : Btw f L U) {e : Q3} (h0 : 0 ≤ e.c) (h1 : e.c ≤ 48) : Btw (rlx f e) L (U + 48) := fun i => by
  have h2 := h i; have h3 := h e.a; have h4 := h e.b
  rw [Go.Proofs.Ytnhiepgfgnemkaa.rlx, updI]; split <;> omega
theorem Btw.mono {f : Int → Int} {L U U' : Int} (h : Btw f L U) (hU : U ≤ U') : Btw f L U' := fun i => ⟨(h i).1, by have := (h i).2; omega⟩
end Go.Proofs.Ytnhiepgfgnemkaa
