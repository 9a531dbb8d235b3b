/- Openers: what a slice of int64s, or of structs of int64s, that came in reads as. No condition. -/
import Derived.Test.YtncmhefendhinaaGreatDoorLib
import Derived.ProofKit
import Derived.Deep.Slices
import Derived.Deep.Strs
namespace Go.Proofs.YtncmhefendhinaaGreatDoor
open Go.RowKit Go.ChangeShapes Go.WideShapes Go.ChangeAt

def I64 (n : Int) : Prop := -9223372036854775808 ≤ n ∧ n ≤ 9223372036854775807
theorem i64_of_wf {n : Int} (h : (Lit.int .i64 n).wf = true) : I64 n := by
  have := Joins.in64_of_wf h
  exact this
def good1 (x : Int) : Prop := I64 x
def good2 (x : Q2) : Prop := I64 x.a ∧ I64 x.b
def good3 (x : Q3) : Prop := I64 x.a ∧ I64 x.b ∧ I64 x.c
def good4 (x : Q4) : Prop := I64 x.a ∧ I64 x.b ∧ I64 x.c ∧ I64 x.d

section
variable {H : Type} {enc : TypeId × Value → H} {P : Program} {w : World} {base : Nat} {spare : Nat → Bool} {held : Bool}

theorem list1 {α : Type} {l : List α} (h : l.length = 1) : ∃ a, l = [a] := match l, h with | [a], _ => ⟨a, rfl⟩
theorem list2 {α : Type} {l : List α} (h : l.length = 2) : ∃ a b, l = [a, b] := match l, h with | [a, b], _ => ⟨a, b, rfl⟩
theorem list3 {α : Type} {l : List α} (h : l.length = 3) : ∃ a b c, l = [a, b, c] := match l, h with | [a, b, c], _ => ⟨a, b, c, rfl⟩
theorem list4 {α : Type} {l : List α} (h : l.length = 4) : ∃ a b c d, l = [a, b, c, d] := match l, h with | [a, b, c, d], _ => ⟨a, b, c, d, rfl⟩

/-- How an element's cells are read. -/
def Decs {α : Type} (H : Type) (enc : TypeId × Value → H) (P : Program) (w : World) (spare : Nat → Bool) (held : Bool) (e : TypeId) (en : α → List Value) (good : α → Prop) : Prop :=
  ∀ n cs x, DataW.trod enc P w 0 spare held n e cs = some x → ∃ y : α, cs = en y ∧ good y

theorem dec1 {t : TypeId} (ht : P.underlying t = some (.int .i64)) : Decs H enc P w spare held t enc1 good1 := by
  intro n cs x h
  obtain ⟨a, rfl, _, hw⟩ := DataW.trod_int ht h
  exact ⟨a, rfl, i64_of_wf hw⟩
theorem dec4 {t : TypeId} {f0 f1 f2 f3 : Field} (ht : P.underlying t = some (.struct #[f0, f1, f2, f3])) (hC : P.cellsOf t = 4) (h0 : P.underlying f0.type = some (.int .i64)) (h1 : P.underlying f1.type = some (.int .i64))
    (h2 : P.underlying f2.type = some (.int .i64)) (h3 : P.underlying f3.type = some (.int .i64)) (ho : (f0.offset, f1.offset, f2.offset, f3.offset) = (0, 1, 2, 3)) (hc : (P.cellsOf f0.type, P.cellsOf f1.type, P.cellsOf f2.type, P.cellsOf f3.type) = (1, 1, 1, 1)) :
    Decs H enc P w spare held t enc4 good4 := by
  intro n cs x h
  obtain ⟨y0, y1, y2, y3, m, _, hl, g0, g1, g2, g3⟩ := Joins.trod_struct4 ht h
  simp only [Prod.mk.injEq] at ho hc
  obtain ⟨o0, o1, o2, o3⟩ := ho
  obtain ⟨c0, c1, c2, c3⟩ := hc
  rw [hC] at hl
  obtain ⟨a, b, c, d, rfl⟩ := list4 hl
  rw [o0, c0] at g0; rw [o1, c1] at g1; rw [o2, c2] at g2; rw [o3, c3] at g3
  obtain ⟨i0, e0, _, w0⟩ := DataW.trod_int h0 g0
  obtain ⟨i1, e1, _, w1⟩ := DataW.trod_int h1 g1
  obtain ⟨i2, e2, _, w2⟩ := DataW.trod_int h2 g2
  obtain ⟨i3, e3, _, w3⟩ := DataW.trod_int h3 g3
  simp at e0 e1 e2 e3
  subst e0 e1 e2 e3
  exact ⟨⟨i0, i1, i2, i3⟩, rfl, i64_of_wf w0, i64_of_wf w1, i64_of_wf w2, i64_of_wf w3⟩
theorem dec3 {t : TypeId} {f0 f1 f2 : Field} (ht : P.underlying t = some (.struct #[f0, f1, f2])) (hC : P.cellsOf t = 3) (h0 : P.underlying f0.type = some (.int .i64)) (h1 : P.underlying f1.type = some (.int .i64))
    (h2 : P.underlying f2.type = some (.int .i64)) (ho : (f0.offset, f1.offset, f2.offset) = (0, 1, 2)) (hc : (P.cellsOf f0.type, P.cellsOf f1.type, P.cellsOf f2.type) = (1, 1, 1)) :
    Decs H enc P w spare held t enc3 good3 := by
  intro n cs x h
  obtain ⟨y0, y1, y2, m, _, hl, g0, g1, g2⟩ := Deep.trod_struct3 ht h
  simp only [Prod.mk.injEq] at ho hc
  obtain ⟨o0, o1, o2⟩ := ho
  obtain ⟨c0, c1, c2⟩ := hc
  rw [hC] at hl
  obtain ⟨a, b, c, rfl⟩ := list3 hl
  rw [o0, c0] at g0; rw [o1, c1] at g1; rw [o2, c2] at g2
  obtain ⟨i0, e0, _, w0⟩ := DataW.trod_int h0 g0
  obtain ⟨i1, e1, _, w1⟩ := DataW.trod_int h1 g1
  obtain ⟨i2, e2, _, w2⟩ := DataW.trod_int h2 g2
  simp at e0 e1 e2
  subst e0 e1 e2
  exact ⟨⟨i0, i1, i2⟩, rfl, i64_of_wf w0, i64_of_wf w1, i64_of_wf w2⟩
theorem dec2 {t : TypeId} {f0 f1 : Field} (ht : P.underlying t = some (.struct #[f0, f1])) (hC : P.cellsOf t = 2) (h0 : P.underlying f0.type = some (.int .i64)) (h1 : P.underlying f1.type = some (.int .i64))
    (ho : (f0.offset, f1.offset) = (0, 1)) (hc : (P.cellsOf f0.type, P.cellsOf f1.type) = (1, 1)) :
    Decs H enc P w spare held t enc2 good2 := by
  intro n cs x h
  obtain ⟨y0, y1, m, _, hl, g0, g1⟩ := trod_struct2 ht h
  simp only [Prod.mk.injEq] at ho hc
  obtain ⟨o0, o1⟩ := ho
  obtain ⟨c0, c1⟩ := hc
  rw [hC] at hl
  obtain ⟨a, b, rfl⟩ := list2 hl
  rw [o0, c0] at g0; rw [o1, c1] at g1
  obtain ⟨i0, e0, _, w0⟩ := DataW.trod_int h0 g0
  obtain ⟨i1, e1, _, w1⟩ := DataW.trod_int h1 g1
  simp at e0 e1
  subst e0 e1
  exact ⟨⟨i0, i1⟩, rfl, i64_of_wf w0, i64_of_wf w1⟩

theorem lt_of_cell {w : World} {a : Addr} {v : Value} (h : w.cell? a = some v) : a.block < w.heap.size := by
  rcases Nat.lt_or_ge a.block w.heap.size with h' | h'
  · exact h'
  · simp [World.cell?, Array.getElem?_eq_none h'] at h

/-- A slice that came in, opened. -/
theorem open_sl {α : Type} [Inhabited α] {en : α → List Value} {good : α → Prop} {sz : Nat} (hsz : ∀ x, (en x).length = sz) (hpos : 0 < sz) {t e : TypeId} (ht : P.underlying t = some (.slice e)) (hC : P.cellsOf e = sz) (hd : Decs H enc P w spare held e en good)
    {fuel : Nat} {p : Option Addr} {n c : Nat} {x : DataW H × List MemPlace} (h : DataW.trod enc P w 0 spare held fuel t [.slice p n c] = some x) :
    ∃ l : List α, SlT en sz w p n l ∧ (∀ y ∈ l, good y) ∧ n ≤ maxLen := by
  rcases Deep.open_slice ht h with ⟨hcs, _⟩ | ⟨a, len, cap, m, k, D, Pl, hcs, _, hlc, hcm, hm, _, hx⟩
  · simp at hcs
    obtain ⟨rfl, rfl, rfl⟩ := hcs
    exact ⟨[], SlT.zero _ _, by simp, Nat.zero_le _⟩
  · simp at hcs
    obtain ⟨rfl, rfl, rfl⟩ := hcs
    have hnm : n ≤ m := by rw [hm]; split <;> omega
    obtain ⟨f, hf⟩ := Deep.choose_lt (α := α) (n := n) (p := fun i y => (w.cells? 0 (a.add (i * P.cellsOf e)) (P.cellsOf e) = some (en y)) ∧ good y) (fun i hi => by
      obtain ⟨cs', g1, g2⟩ := hx i (by omega)
      obtain ⟨y, rfl, hy⟩ := hd _ _ _ g2
      exact ⟨y, g1, hy⟩)
    refine ⟨(List.range n).map f, ⟨by simp, ?_⟩, ?_, Nat.le_trans hlc hcm⟩
    · by_cases h0 : n = 0
      · exact Or.inl h0
      · obtain ⟨b, off, spot⟩ := a
        have g0 := (World.cells?_some (hf 0 (by omega)).1).2.2
        have hspot : spot = none := by
          have g := g0 0 (by omega)
          rw [List.getElem?_eq_getElem (by rw [hsz]; exact hpos)] at g
          simpa [Addr.add] using World.cell?_spot g
        subst hspot
        refine Or.inr ⟨b, off, rfl, ?_, ?_⟩
        · have g := g0 0 (by omega)
          rw [List.getElem?_eq_getElem (by rw [hsz]; exact hpos)] at g
          rw [Addr.add_lit, Addr.add_lit] at g
          exact lt_of_cell g
        · intro i x hx' j v hv
          have hi : i < n := by
            rcases Nat.lt_or_ge i n with h' | h'
            · exact h'
            · rw [List.getElem?_eq_none (by simpa using h')] at hx'; cases hx'
          rw [List.getElem?_map, List.getElem?_range hi] at hx'
          simp at hx'
          subst hx'
          have g := (World.cells?_some (hf i hi).1).2.2
          have hj : j < sz := by rw [← hsz (f i)]; exact (List.getElem?_eq_some_iff.1 hv).1
          have := g j (by omega)
          rw [hv, hC, Addr.add_lit, Addr.add_lit] at this
          exact this
    · intro y hy
      rw [List.mem_map] at hy
      obtain ⟨i, hi, rfl⟩ := hy
      exact (hf i (by simpa using hi)).2
end
instance inhQ4 : Inhabited Q4 := ⟨⟨0, 0, 0, 0⟩⟩
instance inhQ3 : Inhabited Q3 := ⟨⟨0, 0, 0⟩⟩
instance inhQ2 : Inhabited Q2 := ⟨⟨0, 0⟩⟩
end Go.Proofs.YtncmhefendhinaaGreatDoor
