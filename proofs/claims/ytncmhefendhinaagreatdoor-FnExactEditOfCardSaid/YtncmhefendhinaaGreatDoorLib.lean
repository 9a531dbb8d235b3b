/- Small general lemmas for the walks of this seat: worlds that have grown, slices that read as lists, regions that draw their order and only grow memory. No condition. -/
import Derived.Test.YtncmhefendhinaaGreatDoorRows
import Derived.WalkKit
import Derived.WalkSpells
import Derived.WalkLawsBesides
import Derived.BigQuiet
import Derived.Lib.SmallJoins
namespace Go.Proofs.YtncmhefendhinaaGreatDoor
open Go.RowKit

theorem hid {p : Prop} (h : p) : Hid p := h
theorem ret_bool {a b : Bool} (h : a = b) : Ending.returned (.bool a) = .returned (.bool b) := by rw [h]
theorem ret_int {k : IntKind} {a b : Int} (h : a = b) : Ending.returned (.int k a) = .returned (.int k b) := by rw [h]

/-- w' has grown out of w: all that lay in w lies as it did. -/
def Ext (w w' : World) : Prop := Below w.heap.size w w'
theorem Ext.refl (w : World) : Ext w w := Below.refl _ _
theorem Ext.trans {a b c : World} (h : Ext a b) (k : Ext b c) : Ext a c := Below.trans h (Below.mono k h.size)
theorem Ext.alloc {a w : World} (h : Ext a w) (o : Obj) : Ext a (w.alloc o) := Below.alloc h h.size o
theorem Ext.drew {a w : World} (h : Ext a w) : Ext a w.drew := Below.drew h
theorem Ext.setCell {a w : World} (h : Ext a w) {p : Addr} (hp : a.heap.size ≤ p.block) (u : Value) : Ext a (w.setCell p u) := Below.setCell h hp u
theorem Ext.le {w w' : World} (h : Ext w w') : w.heap.size ≤ w'.heap.size := h.size
theorem Ext.cells {w w' : World} (h : Ext w w') : ∀ b o, b < w.heap.size → w'.cell? ⟨b, o, none⟩ = w.cell? ⟨b, o, none⟩ := fun b o hb => Below.cell h (p := ⟨b, o, none⟩) hb
theorem Ext.frozens {w w' : World} (h : Ext w w') : ∀ b o, b < w.heap.size → w'.frozen? ⟨b, o, none⟩ = w.frozen? ⟨b, o, none⟩ := fun b o hb => Below.frozen h (p := ⟨b, o, none⟩) hb
theorem Ext.grown {a w w' : World} {row : Option Nat} (h : Ext a w) (hg : w.grownBy w' row) (hr : ∀ k, row = some k → a.heap.size ≤ k) : Ext a w' := Below.grown h hg h.size hr

/-- A world that has grown out of w, as one thing. -/
structure Later (w : World) where
  val : World
  ok : Ext w val

instance laterNe (w : World) : Nonempty (Later w) := ⟨⟨w, Ext.refl _⟩⟩

theorem Later.cell? {w : World} (p : Later w) (a : Addr) (h : a.block < w.heap.size) : p.val.cell? a = w.cell? a := Below.cell p.ok h
attribute [go_sem] Later.cell?

theorem wp_region_later {P : Program} {id : Nat} {Q : Exit → Act → World → Prop} {a : Act} {w : World} {l : List Oper} (hm : P.follows .mixedOrders = true) (hB : Region.lexB .any l.toArray = true)
    (h : wpQuiet P l.toArray (fun w' => ∃ p : Later w, w' = p.val) (fun a' => ∀ w', (∃ p : Later w, w' = p.val) → Q .normal a' w') l a) : (Code.region id l.toArray true).wp P Q a w :=
  wp_region_quiet (C := fun w' => ∃ p : Later w, w' = p.val) hm hB ⟨⟨w.drew, (Ext.refl _).drew⟩, rfl⟩ (by simpa using h)

theorem later_of {P : Program} {f : FuncId} {args : Array Value} {w : World} {p : Later w} {v : Value}
    (h : Calls P f args p.val fun e w' => e = .returned v ∧ Ext p.val w') : Calls P f args p.val fun e w'' => e = .returned v ∧ ∃ q : Later w, w'' = q.val :=
  h.mono fun _ w' ⟨he, hq⟩ => ⟨he, ⟨w', p.ok.trans hq⟩, rfl⟩
theorem later_same {P : Program} {f : FuncId} {args : Array Value} {w : World} {p : Later w} {v : Value}
    (h : Calls P f args p.val fun e w' => e = .returned v ∧ p.val = w') : Calls P f args p.val fun e w'' => e = .returned v ∧ ∃ q : Later w, w'' = q.val :=
  h.mono fun _ _ ⟨he, hq⟩ => ⟨he, p, hq.symm⟩
theorem Calls.ext {P : Program} {f : FuncId} {args : Array Value} {w : World} {v : Value} (h : Calls P f args w fun e w' => e = .returned v ∧ w = w') :
    Calls P f args w fun e w' => e = .returned v ∧ Ext w w' := h.mono fun _ _ ⟨he, hq⟩ => ⟨he, hq ▸ Ext.refl _⟩

/-- The slice at p of n elements, each of sz cells, reads as l. -/
def SlT {α : Type} (enc : α → List Value) (sz : Nat) (w : World) (p : Option Addr) (n : Nat) (l : List α) : Prop :=
  l.length = n ∧ (n = 0 ∨ ∃ b off, p = some ⟨b, off, none⟩ ∧ b < w.heap.size ∧ ∀ k x, l[k]? = some x → ∀ j v, (enc x)[j]? = some v → w.cell? ⟨b, off + k * sz + j, none⟩ = some v)

section
variable {α : Type} {enc : α → List Value} {sz : Nat} {w w' : World} {p : Option Addr} {n : Nat} {l : List α}
theorem SlT.length (h : SlT enc sz w p n l) : l.length = n := h.1
theorem SlT.ext (h : SlT enc sz w p n l) (hE : Ext w w') : SlT enc sz w' p n l := by
  obtain ⟨h1, h2⟩ := h
  refine ⟨h1, ?_⟩
  rcases h2 with h2 | ⟨b, off, hp, hb, hc⟩
  · exact Or.inl h2
  · exact Or.inr ⟨b, off, hp, Nat.lt_of_lt_of_le hb hE.le, fun k x hx j v hv => (hE.cells b _ hb).trans (hc k x hx j v hv)⟩
theorem SlT.get (h : SlT enc sz w p n l) {k : Nat} (hk : k < n) : ∃ b off x, p = some ⟨b, off, none⟩ ∧ b < w.heap.size ∧ Hid (l[k]? = some x) ∧ ∀ j v, (enc x)[j]? = some v → w.cell? ⟨b, off + k * sz + j, none⟩ = some v := by
  obtain ⟨h1, h2⟩ := h
  rcases h2 with h2 | ⟨b, off, hp, hb, hc⟩
  · omega
  · have hx : l[k]? = some l[k] := List.getElem?_eq_getElem (by omega)
    exact ⟨b, off, l[k], hp, hb, hx, hc k _ hx⟩
theorem SlT.zero (p : Option Addr) (w : World) : SlT enc sz w p 0 [] := ⟨rfl, Or.inl rfl⟩
end

theorem take_snoc {α : Type} {l : List α} {k : Nat} {x : α} (h : l[k]? = some x) : l.take (k + 1) = l.take k ++ [x] := by
  rw [List.take_add_one, h]; rfl
theorem take_all {α : Type} {l : List α} {k n : Nat} (hl : l.length = n) (h : n ≤ k) : l.take k = l := List.take_of_length_le (by omega)

/-- One cell, an int64. -/
def enc1 (x : Int) : List Value := [.int .i64 x]
theorem SlT.int {w : World} {p : Option Addr} {n : Nat} {l : List Int} (h : SlT enc1 1 w p n l) {k : Nat} (hk : k < n) :
    ∃ b off x, p = some ⟨b, off, none⟩ ∧ b < w.heap.size ∧ Hid (l[k]? = some x) ∧ w.cell? ⟨b, off + k, none⟩ = some (.int .i64 x) := by
  obtain ⟨b, off, x, h1, h2, h3, h4⟩ := h.get hk
  exact ⟨b, off, x, h1, h2, h3, by have := h4 0 _ rfl; simpa using this⟩

/-- Four int64s. -/
structure Q4 where
  a : Int
  b : Int
  c : Int
  d : Int
def enc4 (x : Q4) : List Value := [.int .i64 x.a, .int .i64 x.b, .int .i64 x.c, .int .i64 x.d]
theorem SlT.four {w : World} {p : Option Addr} {n : Nat} {l : List Q4} (h : SlT enc4 4 w p n l) {k : Nat} (hk : k < n) :
    ∃ b off x, p = some ⟨b, off, none⟩ ∧ b < w.heap.size ∧ Hid (l[k]? = some x) ∧ w.cell? ⟨b, off + k * 4, none⟩ = some (.int .i64 x.a) ∧ w.cell? ⟨b, off + k * 4 + 1, none⟩ = some (.int .i64 x.b) ∧
      w.cell? ⟨b, off + k * 4 + 2, none⟩ = some (.int .i64 x.c) ∧ w.cell? ⟨b, off + k * 4 + 3, none⟩ = some (.int .i64 x.d) := by
  obtain ⟨b, off, x, h1, h2, h3, h4⟩ := h.get hk
  exact ⟨b, off, x, h1, h2, h3, h4 0 _ rfl, h4 1 _ rfl, h4 2 _ rfl, h4 3 _ rfl⟩
/-- Three int64s. -/
structure Q3 where
  a : Int
  b : Int
  c : Int
def enc3 (x : Q3) : List Value := [.int .i64 x.a, .int .i64 x.b, .int .i64 x.c]
theorem SlT.three {w : World} {p : Option Addr} {n : Nat} {l : List Q3} (h : SlT enc3 3 w p n l) {k : Nat} (hk : k < n) :
    ∃ b off x, p = some ⟨b, off, none⟩ ∧ b < w.heap.size ∧ Hid (l[k]? = some x) ∧ w.cell? ⟨b, off + k * 3, none⟩ = some (.int .i64 x.a) ∧ w.cell? ⟨b, off + k * 3 + 1, none⟩ = some (.int .i64 x.b) ∧
      w.cell? ⟨b, off + k * 3 + 2, none⟩ = some (.int .i64 x.c) := by
  obtain ⟨b, off, x, h1, h2, h3, h4⟩ := h.get hk
  exact ⟨b, off, x, h1, h2, h3, h4 0 _ rfl, h4 1 _ rfl, h4 2 _ rfl⟩
/-- Two int64s. -/
structure Q2 where
  a : Int
  b : Int
def enc2 (x : Q2) : List Value := [.int .i64 x.a, .int .i64 x.b]
theorem SlT.two {w : World} {p : Option Addr} {n : Nat} {l : List Q2} (h : SlT enc2 2 w p n l) {k : Nat} (hk : k < n) :
    ∃ b off x, p = some ⟨b, off, none⟩ ∧ b < w.heap.size ∧ Hid (l[k]? = some x) ∧ w.cell? ⟨b, off + k * 2, none⟩ = some (.int .i64 x.a) ∧ w.cell? ⟨b, off + k * 2 + 1, none⟩ = some (.int .i64 x.b) := by
  obtain ⟨b, off, x, h1, h2, h3, h4⟩ := h.get hk
  exact ⟨b, off, x, h1, h2, h3, h4 0 _ rfl, h4 1 _ rfl⟩

theorem flatMap_at {α : Type} {enc : α → List Value} {sz : Nat} (hsz : ∀ x, (enc x).length = sz) : ∀ {l : List α} {k : Nat} {x : α}, l[k]? = some x → ∀ {j : Nat} {v : Value}, (enc x)[j]? = some v → (l.flatMap enc)[k * sz + j]? = some v
  | [], k, x, hx, _, _, _ => by simp at hx
  | y :: l, 0, x, hx, j, v, hv => by
    have hj : j < sz := by rw [← hsz x]; exact (List.getElem?_eq_some_iff.1 hv).1
    simp only [List.getElem?_cons_zero, Option.some.injEq] at hx
    subst hx
    simp only [List.flatMap_cons, Nat.zero_mul, Nat.zero_add]
    rw [List.getElem?_append_left (by rw [hsz]; exact hj)]
    exact hv
  | y :: l, k + 1, x, hx, j, v, hv => by
    simp only [List.getElem?_cons_succ] at hx
    simp only [List.flatMap_cons]
    rw [List.getElem?_append_right (by rw [hsz, Nat.add_mul]; omega), hsz, show (k + 1) * sz + j - sz = k * sz + j by rw [Nat.add_mul]; omega]
    exact flatMap_at hsz hx hv

/-- A row that the call owns reads as its list. -/
theorem SlT.of_owns {α : Type} {enc : α → List Value} {sz : Nat} (hsz : ∀ x, (enc x).length = sz) {w : World} {base : Nat} {e : TypeId} {p : Option Addr} {n c : Nat} {l : List α} (hl : l.length = n)
    (h : w.ownsRow base e sz (.slice p n c) n (l.flatMap enc)) : SlT enc sz w p n l := by
  refine ⟨hl, ?_⟩
  rcases h.2 with ⟨_, h0⟩ | ⟨g, cap, cur, hv, hg, hh, hc, hm, hs, ht⟩
  · exact Or.inl h0
  · cases hv
    refine Or.inr ⟨g, 0, rfl, ?_, ?_⟩
    · rcases Nat.lt_or_ge g w.heap.size with h' | h'
      · exact h'
      · rw [Array.getElem?_eq_none h'] at hh; cases hh
    · intro k x hx j v hv
      have hk : k < l.length := (List.getElem?_eq_some_iff.1 hx).1
      have key := flatMap_at hsz hx hv
      rw [Nat.zero_add]
      simp only [World.cell?, hh]
      rw [← ht, List.getElem?_take] at key
      split at key
      · simpa using key
      · cases key

theorem made_const (z : Array Value) (v : Value) (m : Nat) (hz : 0 < z.size) (h : ∀ j, j < z.size → z[j]? = some v) : (madeCells z m).toList = List.replicate m v := by
  apply List.ext_getElem?
  intro j
  simp only [madeCells, Array.toList_map, Array.toList_range, List.getElem?_map, List.getElem?_replicate]
  by_cases hj : j < m
  · rw [List.getElem?_range hj]
    have := h (j % z.size) (Nat.mod_lt _ hz)
    simp [hj, getElem!_def, this]
  · simp [hj]

/-- The cells of a row of n elements, k of which have been stored. -/
def fill {α : Type} (enc : α → List Value) (sz : Nat) (z : Value) (l : List α) (n k : Nat) : List Value := (l.take k).flatMap enc ++ List.replicate ((n - k) * sz) z
theorem fill_zero {α : Type} (enc : α → List Value) (sz : Nat) (z : Value) (l : List α) (n : Nat) : fill enc sz z l n 0 = List.replicate (n * sz) z := by simp [fill]
theorem fill_all {α : Type} (enc : α → List Value) (sz : Nat) (z : Value) (l : List α) (n : Nat) (h : l.length = n) : fill enc sz z l n n = l.flatMap enc := by
  simp [fill, List.take_of_length_le (Nat.le_of_eq h)]
theorem flatMap_len {α : Type} {enc : α → List Value} {sz : Nat} (hsz : ∀ x, (enc x).length = sz) : ∀ (l : List α), (l.flatMap enc).length = l.length * sz
  | [] => by simp
  | x :: l => by rw [List.flatMap_cons, List.length_append, hsz, flatMap_len hsz l, List.length_cons, Nat.add_mul]; omega
theorem fill_step1 {l : List Int} {n k : Nat} {x : Int} {z : Value} (hx : l[k]? = some x) (hk : k < n) (hl : l.length = n) :
    (fill enc1 1 z l n k).set k (.int .i64 x) = fill enc1 1 z l n (k + 1) := by
  have e : (n - k) * 1 = (n - (k + 1)) * 1 + 1 := by omega
  have hlen : ((l.take k).flatMap enc1).length = k := by rw [flatMap_len (sz := 1) (fun _ => rfl), List.length_take]; omega
  unfold fill
  rw [take_snoc hx, e, List.replicate_succ, List.flatMap_append, List.set_append_right _ _ (by omega), hlen]
  simp [enc1]
theorem fill_step2 {l : List Q2} {n k : Nat} {x : Q2} {z : Value} (hx : l[k]? = some x) (hk : k < n) (hl : l.length = n) :
    ((fill enc2 2 z l n k).set (k * 2) (.int .i64 x.a)).set (k * 2 + 1) (.int .i64 x.b) = fill enc2 2 z l n (k + 1) := by
  have e : (n - k) * 2 = (n - (k + 1)) * 2 + 1 + 1 := by omega
  have hlen : ((l.take k).flatMap enc2).length = k * 2 := by rw [flatMap_len (sz := 2) (fun _ => rfl), List.length_take]; omega
  unfold fill
  rw [take_snoc hx, e, List.replicate_succ, List.replicate_succ, List.flatMap_append, List.set_append_right _ _ (by omega), hlen, List.set_append_right _ _ (by omega), hlen]
  simp [enc2]
theorem fill_step3 {l : List Q3} {n k : Nat} {x : Q3} {z : Value} (hx : l[k]? = some x) (hk : k < n) (hl : l.length = n) :
    (((fill enc3 3 z l n k).set (k * 3) (.int .i64 x.a)).set (k * 3 + 1) (.int .i64 x.b)).set (k * 3 + 2) (.int .i64 x.c) = fill enc3 3 z l n (k + 1) := by
  have e : (n - k) * 3 = (n - (k + 1)) * 3 + 1 + 1 + 1 := by omega
  have hlen : ((l.take k).flatMap enc3).length = k * 3 := by rw [flatMap_len (sz := 3) (fun _ => rfl), List.length_take]; omega
  unfold fill
  rw [take_snoc hx, e, List.replicate_succ, List.replicate_succ, List.replicate_succ, List.flatMap_append, List.set_append_right _ _ (by omega), hlen, List.set_append_right _ _ (by omega), hlen, List.set_append_right _ _ (by omega), hlen]
  simp [enc3]
theorem fill_step4 {l : List Q4} {n k : Nat} {x : Q4} {z : Value} (hx : l[k]? = some x) (hk : k < n) (hl : l.length = n) :
    ((((fill enc4 4 z l n k).set (k * 4) (.int .i64 x.a)).set (k * 4 + 1) (.int .i64 x.b)).set (k * 4 + 2) (.int .i64 x.c)).set (k * 4 + 3) (.int .i64 x.d) = fill enc4 4 z l n (k + 1) := by
  have e : (n - k) * 4 = (n - (k + 1)) * 4 + 1 + 1 + 1 + 1 := by omega
  have hlen : ((l.take k).flatMap enc4).length = k * 4 := by rw [flatMap_len (sz := 4) (fun _ => rfl), List.length_take]; omega
  unfold fill
  rw [take_snoc hx, e, List.replicate_succ, List.replicate_succ, List.replicate_succ, List.replicate_succ, List.flatMap_append, List.set_append_right _ _ (by omega), hlen, List.set_append_right _ _ (by omega), hlen, List.set_append_right _ _ (by omega), hlen, List.set_append_right _ _ (by omega), hlen]
  simp [enc4]
theorem fill_len {α : Type} {enc : α → List Value} {sz : Nat} (hsz : ∀ x, (enc x).length = sz) {z : Value} {l : List α} {n k : Nat} (hk : k ≤ n) (hl : l.length = n) : (fill enc sz z l n k).length = n * sz := by
  rw [fill, List.length_append, flatMap_len hsz, List.length_take, List.length_replicate, ← Nat.add_mul]
  congr 1
  omega
theorem Ext.grownBy {w w' : World} (h : Ext w w') (row : Option Nat) : w.grownBy w' row := ⟨h.os, h.tape, h.output, h.size, fun k hk _ => h.block k hk⟩
theorem owns_ext {w w' : World} {base : Nat} {e : TypeId} {size : Nat} {v : Value} {n : Nat} {xs : List Value} (h : w.ownsRow base e size v n xs) (hE : Ext w w') : w'.ownsRow base e size v n xs :=
  h.kept (hE.grownBy none) (by cases v.ownBlock <;> simp)
theorem owns_lt {w : World} {base : Nat} {e : TypeId} {size g n c : Nat} {xs : List Value} (h : w.ownsRow base e size (.slice (some ⟨g, 0, none⟩) n c) n xs) : base ≤ g ∧ g < w.heap.size := h.lt g rfl
theorem owns_cell {w : World} {base : Nat} {e : TypeId} {size g n c : Nat} {xs : List Value} (h : w.ownsRow base e size (.slice (some ⟨g, 0, none⟩) n c) n xs) (j : Nat) (hj : j < n * size) : ∃ v, w.cell? ⟨g, j, none⟩ = some v := by
  rw [h.cellAt j hj]
  exact ⟨_, List.getElem?_eq_getElem (by rw [h.1]; exact hj)⟩
theorem owns_free {w : World} {base : Nat} {e : TypeId} {size g n c : Nat} {xs : List Value} (h : w.ownsRow base e size (.slice (some ⟨g, 0, none⟩) n c) n xs) : ∀ j, w.frozen? ⟨g, j, none⟩ = false := fun j => h.frozenAt j
theorem owns_set {w : World} {base : Nat} {e : TypeId} {size g n c : Nat} {xs : List Value} (h : w.ownsRow base e size (.slice (some ⟨g, 0, none⟩) n c) n xs) (j : Nat) (u : Value) :
    (w.setCell ⟨g, j, none⟩ u).ownsRow base e size (.slice (some ⟨g, 0, none⟩) n c) n (xs.set j u) := (h.stored j u).1
/-- The first place whose element satisfies p, or -1. -/
def idx {α : Type} (p : α → Bool) (l : List α) : Int := match l.findIdx? p with | some i => (i : Int) | none => -1
theorem idx_miss {α : Type} {p : α → Bool} {l : List α} (h : l.any p = false) : idx p l = -1 := by
  have : l.findIdx? p = none := by rw [List.findIdx?_eq_none_iff]; intro x hx; rw [List.any_eq_false] at h; simpa using h x hx
  simp [idx, this]
theorem idx_hit {α : Type} {p : α → Bool} {l : List α} {k : Nat} {x : α} (h : (l.take k).any p = false) (hx : l[k]? = some x) (hp : p x = true) : idx p l = k := by
  have : l.findIdx? p = some k := by
    rw [List.findIdx?_eq_some_iff_getElem]
    obtain ⟨hk, rfl⟩ := List.getElem?_eq_some_iff.1 hx
    refine ⟨hk, hp, fun j hj => ?_⟩
    rw [List.any_eq_false] at h
    have hm : l[j] ∈ l.take k := List.mem_take_iff_getElem.2 ⟨j, by omega, rfl⟩
    simpa using h _ hm
  simp [idx, this]
theorem any_take_snoc {α : Type} {p : α → Bool} {l : List α} {k : Nat} {x : α} (h : (l.take k).any p = false) (hx : l[k]? = some x) (hp : p x = false) : (l.take (k + 1)).any p = false := by
  rw [take_snoc hx, List.any_append, h]; simp [hp]
theorem idx_any {α : Type} (p : α → Bool) (l : List α) : decide (0 ≤ idx p l) = l.any p := by
  by_cases h : l.any p = true
  · rw [h]
    have : ∃ i, l.findIdx? p = some i := by
      cases hf : l.findIdx? p with
      | some i => exact ⟨i, rfl⟩
      | none => rw [List.findIdx?_eq_none_iff] at hf; rw [List.any_eq_true] at h; obtain ⟨x, hx, hp⟩ := h; rw [hf x hx] at hp; cases hp
    obtain ⟨i, hi⟩ := this
    simp [idx, hi]
  · rw [Bool.not_eq_true] at h
    rw [idx_miss h, h]; rfl
theorem all_not_any {α : Type} (p : α → Bool) (l : List α) : (!l.any fun x => !p x) = l.all p := by
  induction l with
  | nil => rfl
  | cons x l ih => rw [List.any_cons, List.all_cons, ← ih]; cases p x <;> simp

theorem enc4_len (x : Q4) : (enc4 x).length = 4 := rfl
theorem enc3_len (x : Q3) : (enc3 x).length = 3 := rfl
theorem enc2_len (x : Q2) : (enc2 x).length = 2 := rfl
theorem enc1_len (x : Int) : (enc1 x).length = 1 := rfl
end Go.Proofs.YtncmhefendhinaaGreatDoor
