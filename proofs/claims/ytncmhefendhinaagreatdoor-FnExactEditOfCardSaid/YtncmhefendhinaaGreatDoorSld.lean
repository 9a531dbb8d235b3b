/- Slices of elements that may hold slices themselves: what they read as; a row that is filled element by element. No condition. -/
import Derived.Test.YtncmhefendhinaaGreatDoorBox
import Derived.Test.YtncmhefendhinaaGreatDoorMrk
import Derived.Deep.MidRow
namespace Go.Proofs.YtncmhefendhinaaGreatDoor
open Go.RowKit

theorem set_take {cur : List Value} {o : Nat} {v : Value} (h : o < cur.length) : (cur.set o v).take (o + 1) = cur.take o ++ [v] := by
  rw [List.take_add_one, List.take_set_of_le (Nat.le_refl _), List.getElem?_set_self h]; rfl
theorem Blk.setCells {B : Nat} {t : TypeId} : ∀ (vs : List Value) (o : Nat) (w : World) (cur : List Value), Blk w B cur t → o + vs.length ≤ cur.length → Blk (w.setCells B o vs) B (cur.take o ++ (vs ++ cur.drop (o + vs.length))) t
  | [], o, w, cur, h, _ => by
    show Blk w B _ t
    simpa using h
  | v :: vs, o, w, cur, h, hl => by
    rw [List.length_cons] at hl
    have ih := Blk.setCells vs (o + 1) (w.setCell ⟨B, o, none⟩ v) (cur.set o v) (h.set o v) (by rw [List.length_set]; omega)
    have e1 : (cur.set o v).take (o + 1) ++ (vs ++ (cur.set o v).drop (o + 1 + vs.length)) = cur.take o ++ (v :: vs ++ cur.drop (o + (v :: vs).length)) := by
      rw [set_take (by omega), List.drop_set_of_lt (by omega), List.length_cons, show o + (vs.length + 1) = o + 1 + vs.length by omega]
      simp
    rw [e1] at ih
    exact ih
theorem Blk.setAll {B : Nat} {t : TypeId} {w : World} {cur vs : List Value} (h : Blk w B cur t) (hl : vs.length = cur.length) : Blk (w.setCells B 0 vs) B vs t := by
  have := Blk.setCells vs 0 w cur h (by omega)
  rw [List.take_zero, List.nil_append, Nat.zero_add, List.drop_of_length_le (by omega), List.append_nil] at this
  exact this
theorem Mut.setCells {a : World} {B : Nat} {S : List Nat} (hB : B ∈ S) : ∀ (vs : List Value) (o : Nat) (w : World), Mut a w S → Mut a (w.setCells B o vs) S
  | [], _, _, h => h
  | v :: vs, o, _, h => Mut.setCells hB vs (o + 1) _ (h.setCell (p := ⟨B, o, none⟩) hB v)
theorem there_blk {w : World} {B : Nat} {cs : List Value} {t : TypeId} (h : Blk w B cs t) : w.there B 0 cs.length := fun j hj => by
  rw [Nat.zero_add]
  exact ⟨by rw [h.cells, List.getElem?_eq_getElem hj]; rfl, h.free j⟩
theorem range_blk {w : World} {B : Nat} {cs : List Value} {t : TypeId} (h : Blk w B cs t) : w.rangeAt B 0 cs := fun j v hj => by rw [Nat.zero_add, h.cells]; exact hj
theorem ext_setCells {a : World} {B : Nat} (hB : a.heap.size ≤ B) : ∀ (vs : List Value) (o : Nat) (w : World), Ext a w → Ext a (w.setCells B o vs)
  | [], _, _, h => h
  | v :: vs, o, _, h => ext_setCells hB vs (o + 1) _ (h.setCell (p := ⟨B, o, none⟩) hB v)
theorem quiet_load_rowD {P : Program} {C : World → Prop} {a : Act} {o : Oper} {K : Act → Prop} (ty : TypeId) (x : Operand) (h : o.op = .load ty x) (b off : Nat) (hx : a.eval x = .pointer (some ⟨b, off, none⟩)) (cs : List Value) (d : TypeDesc) (hc : ∀ w, C w → w.rangeAt b off cs)
    (hu : P.underlying ty = some d) (hd : d.isRow = true) (hi : (P.info? ty).map (·.size) = some cs.length) (hk : K (a.put o.dst (.agg cs.toArray))) : o.quiet P a C K :=
  ⟨_, fun w hw => by
    unfold Oper.quietAt execOp
    simp only [h, hx, Instr.loadAt, Instr.sureAddr, Sem.run_bind, Sem.run_pure, Result.andThen_ok, run_loadVar_mid w b off ty cs d (hc w hw) hu hd hi]
    exact ⟨rfl, rfl⟩, hk⟩
theorem there_owns {w : World} {base : Nat} {e : TypeId} {size g n c o m : Nat} {xs : List Value} (h : w.ownsRow base e size (.slice (some ⟨g, 0, none⟩) n c) n xs) (hm : o + m ≤ n * size) : w.there g o m := fun j hj => by
  obtain ⟨v, hv⟩ := owns_cell h (o + j) (by omega)
  exact ⟨by rw [hv]; rfl, owns_free h _⟩
/-- How an element's cells read; inner slices lie in blocks from a base on. -/
abbrev Rdg (α : Type) := Nat → World → α → List Value → Prop
structure Rok {α : Type} (R : Rdg α) (sz : Nat) : Prop where
  len : ∀ {base : Nat} {w : World} {x : α} {cs : List Value}, R base w x cs → cs.length = sz
  ext : ∀ {base : Nat} {w w' : World} {x : α} {cs : List Value}, R base w x cs → Ext w w' → R base w' x cs
  mt : ∀ {base g : Nat} {w w' : World} {x : α} {cs : List Value}, R base w x cs → Mut w w' [g] → g < base → R base w' x cs
  low : ∀ {b b' : Nat} {w : World} {x : α} {cs : List Value}, R b w x cs → b' ≤ b → R b' w x cs
/-- The slice at p of n elements reads as l. -/
def SlD {α : Type} (R : Rdg α) (sz base : Nat) (w : World) (p : Option Addr) (n : Nat) (l : List α) : Prop :=
  l.length = n ∧ (n = 0 ∨ ∃ b off, p = some ⟨b, off, none⟩ ∧ base ≤ b ∧ b < w.heap.size ∧ ∀ k x, l[k]? = some x → ∃ cs, R base w x cs ∧ ∀ j v, cs[j]? = some v → w.cell? ⟨b, off + k * sz + j, none⟩ = some v)
section
variable {α : Type} {R : Rdg α} {sz base : Nat} {w w' : World} {p : Option Addr} {n : Nat} {l : List α}
theorem SlD.length (h : SlD R sz base w p n l) : l.length = n := h.1
theorem SlD.ext (hR : Rok R sz) (h : SlD R sz base w p n l) (hE : Ext w w') : SlD R sz base w' p n l := by
  refine ⟨h.1, h.2.elim Or.inl fun ⟨b, off, hp, h0, hb, hc⟩ => Or.inr ⟨b, off, hp, h0, Nat.lt_of_lt_of_le hb hE.le, fun k x hx => ?_⟩⟩
  obtain ⟨cs, h1, h2⟩ := hc k x hx
  exact ⟨cs, hR.ext h1 hE, fun j v hv => (hE.cells b _ hb).trans (h2 j v hv)⟩
theorem SlD.mt (hR : Rok R sz) {g : Nat} (h : SlD R sz base w p n l) (hM : Mut w w' [g]) (hg : g < base) : SlD R sz base w' p n l := by
  refine ⟨h.1, h.2.elim Or.inl fun ⟨b, off, hp, h0, hb, hc⟩ => Or.inr ⟨b, off, hp, h0, Nat.lt_of_lt_of_le hb hM.size, fun k x hx => ?_⟩⟩
  obtain ⟨cs, h1, h2⟩ := hc k x hx
  refine ⟨cs, hR.mt h1 hM hg, fun j v hv => ?_⟩
  rw [World.cell?_of_block (w := w) (a := ⟨b, off + k * sz + j, none⟩) (hM.block b hb (by simp; omega))]
  exact h2 j v hv
theorem SlD.low (hR : Rok R sz) {b' : Nat} (h : SlD R sz base w p n l) (hb : b' ≤ base) : SlD R sz b' w p n l := by
  refine ⟨h.1, h.2.elim Or.inl fun ⟨b, off, hp, h0, hb2, hc⟩ => Or.inr ⟨b, off, hp, by omega, hb2, fun k x hx => ?_⟩⟩
  obtain ⟨cs, h1, h2⟩ := hc k x hx
  exact ⟨cs, hR.low h1 hb, h2⟩
theorem SlD.get (h : SlD R sz base w p n l) {k : Nat} (hk : k < n) : ∃ b off x cs, p = some ⟨b, off, none⟩ ∧ b < w.heap.size ∧ Hid (l[k]? = some x) ∧ R base w x cs ∧ ∀ j v, cs[j]? = some v → w.cell? ⟨b, off + k * sz + j, none⟩ = some v := by
  obtain ⟨h1, h2⟩ := h
  rcases h2 with h2 | ⟨b, off, hp, _, hb, hc⟩
  · omega
  · have hx : l[k]? = some l[k] := List.getElem?_eq_getElem (by omega)
    obtain ⟨cs, h3, h4⟩ := hc k _ hx
    exact ⟨b, off, l[k], cs, hp, hb, hx, h3, h4⟩
theorem SlD.zero (p : Option Addr) (w : World) (base : Nat) : SlD R sz base w p 0 [] := ⟨rfl, Or.inl rfl⟩
end
/-- Elements without inner slices. -/
def Fl {α : Type} (enc : α → List Value) : Rdg α := fun _ _ x cs => cs = enc x
theorem Fl.ok {α : Type} {enc : α → List Value} {sz : Nat} (h : ∀ x, (enc x).length = sz) : Rok (Fl enc) sz :=
  ⟨fun {_ _ x _} e => by rw [show _ = enc x from e]; exact h x, fun e _ => e, fun e _ _ => e, fun e _ => e⟩
/-- Cells written one behind the other. -/
def putRow (w : World) (g o : Nat) : List Value → World
  | [] => w
  | v :: vs => putRow (w.setCell ⟨g, o, none⟩ v) g (o + 1) vs
def setRow (cells : List Value) (o : Nat) : List Value → List Value
  | [] => cells
  | v :: vs => setRow (cells.set o v) (o + 1) vs
theorem putRow_eq {g : Nat} : ∀ (vs : List Value) (o : Nat) (w : World), putRow w g o vs = w.setCells g o vs
  | [], _, _ => rfl
  | _ :: vs, o, _ => putRow_eq vs (o + 1) _
theorem setRow_len : ∀ (vs : List Value) (cells : List Value) (o : Nat), (setRow cells o vs).length = cells.length
  | [], _, _ => rfl
  | v :: vs, cells, o => by rw [setRow, setRow_len vs]; simp
theorem setRow_old : ∀ (vs : List Value) (cells : List Value) (o i : Nat), i < o → (setRow cells o vs)[i]? = cells[i]?
  | [], _, _, _, _ => rfl
  | v :: vs, cells, o, i, h => by
    rw [setRow, setRow_old vs _ _ _ (by omega), List.getElem?_set, if_neg (by omega)]
theorem setRow_new : ∀ (vs : List Value) (cells : List Value) (o j : Nat) (v : Value), o + vs.length ≤ cells.length → vs[j]? = some v → (setRow cells o vs)[o + j]? = some v
  | [], _, _, j, v, _, h => by simp at h
  | u :: vs, cells, o, 0, v, hl, h => by
    simp at h hl
    subst h
    rw [setRow, setRow_old vs _ _ _ (by omega), Nat.add_zero, List.getElem?_set, if_pos rfl, if_pos (by omega)]
  | u :: vs, cells, o, j + 1, v, hl, h => by
    simp at h hl
    have := setRow_new vs (cells.set o u) (o + 1) j v (by simp; omega) h
    rw [setRow, ← this]; congr 1; omega
theorem putRow_owns {base e g n c size : Nat} : ∀ (vs : List Value) (cells : List Value) (o : Nat) (w : World), w.ownsRow base e size (.slice (some ⟨g, 0, none⟩) n c) n cells → (putRow w g o vs).ownsRow base e size (.slice (some ⟨g, 0, none⟩) n c) n (setRow cells o vs)
  | [], _, _, _, h => h
  | v :: vs, _, o, _, h => putRow_owns vs _ _ _ (owns_set h o v)
theorem putRow_mt {a : World} {g : Nat} : ∀ (vs : List Value) (o : Nat) (w : World), Mut a w [g] → Mut a (putRow w g o vs) [g]
  | [], _, _, h => h
  | v :: vs, o, _, h => putRow_mt vs _ _ (h.setCell (p := ⟨g, o, none⟩) (by simp) v)
theorem putRow_ext {a : World} {g : Nat} (hg : a.heap.size ≤ g) : ∀ (vs : List Value) (o : Nat) (w : World), Ext a w → Ext a (putRow w g o vs)
  | [], _, _, h => h
  | v :: vs, o, _, h => putRow_ext hg vs _ _ (h.setCell (p := ⟨g, o, none⟩) hg v)
/-- The row in block g, of which the first k elements read as those of l. -/
def FillD {α : Type} (R : Rdg α) (sz g : Nat) (e : TypeId) (w : World) (n k : Nat) (l : List α) : Prop :=
  ∃ cells : List Value, w.ownsRow g e sz (.slice (some ⟨g, 0, none⟩) n n) n cells ∧ ∀ i x, i < k → l[i]? = some x → ∃ cs, R (g + 1) w x cs ∧ ∀ j v, cs[j]? = some v → cells[i * sz + j]? = some v
section
variable {α : Type} {R : Rdg α} {sz g n k : Nat} {e : TypeId} {w w' : World} {l : List α}
theorem FillD.start {cells : List Value} (h : w.ownsRow g e sz (.slice (some ⟨g, 0, none⟩) n n) n cells) : FillD R sz g e w n 0 l := ⟨cells, h, fun i x hi => by omega⟩
theorem FillD.ext (hR : Rok R sz) (h : FillD R sz g e w n k l) (hE : Ext w w') : FillD R sz g e w' n k l := by
  obtain ⟨cells, h1, h2⟩ := h
  exact ⟨cells, owns_ext h1 hE, fun i x hi hx => let ⟨cs, a, b⟩ := h2 i x hi hx; ⟨cs, hR.ext a hE, b⟩⟩
theorem FillD.put (hR : Rok R sz) (h : FillD R sz g e w n k l) (hk : k < n) {x : α} {cs : List Value} (hx : l[k]? = some x) (hc : R (g + 1) w x cs) : FillD R sz g e (putRow w g (k * sz) cs) n (k + 1) l := by
  obtain ⟨cells, h1, h2⟩ := h
  have hl := hR.len hc
  have hM := putRow_mt (g := g) cs (k * sz) w (Mut.refl w [g])
  refine ⟨setRow cells (k * sz) cs, putRow_owns _ _ _ _ h1, fun i y hi hy => ?_⟩
  have hcl : cells.length = n * sz := h1.1
  have hkn : k * sz + sz ≤ n * sz := by
    have := Nat.mul_le_mul_right sz (show k + 1 ≤ n by omega)
    rwa [Nat.succ_mul] at this
  by_cases hik : i = k
  · subst hik
    obtain rfl : x = y := Option.some.inj (hx.symm.trans hy)
    exact ⟨cs, hR.mt hc hM (by omega), fun j v hv => setRow_new cs cells _ j v (by omega) hv⟩
  · obtain ⟨ds, a, b⟩ := h2 i y (by omega) hy
    refine ⟨ds, hR.mt a hM (by omega), fun j v hv => ?_⟩
    have hj : j < sz := by rw [← hR.len a]; exact (List.getElem?_eq_some_iff.1 hv).1
    have hik2 : i * sz + sz ≤ k * sz := by
      have := Nat.mul_le_mul_right sz (show i + 1 ≤ k by omega)
      rwa [Nat.succ_mul] at this
    rw [setRow_old cs cells _ _ (by omega)]
    exact b j v hv
theorem FillD.fin (hR : Rok R sz) (h : FillD R sz g e w n n l) (hl : l.length = n) : SlD R sz g w (some ⟨g, 0, none⟩) n l := by
  obtain ⟨cells, h1, h2⟩ := h
  by_cases h0 : n = 0
  · exact ⟨hl, Or.inl h0⟩
  · refine ⟨hl, Or.inr ⟨g, 0, rfl, Nat.le_refl _, (owns_lt h1).2, fun k x hx => ?_⟩⟩
    have hk : k < n := by rw [← hl]; exact (List.getElem?_eq_some_iff.1 hx).1
    obtain ⟨cs, a, b⟩ := h2 k x hk hx
    refine ⟨cs, hR.low a (by omega), fun j v hv => ?_⟩
    have hj : j < sz := by rw [← hR.len a]; exact (List.getElem?_eq_some_iff.1 hv).1
    have hkn : k * sz + sz ≤ n * sz := by
      have := Nat.mul_le_mul_right sz (show k + 1 ≤ n by omega)
      rwa [Nat.succ_mul] at this
    rw [Nat.zero_add, h1.cellAt (k * sz + j) (by omega)]
    exact b j v hv
end
end Go.Proofs.YtncmhefendhinaaGreatDoor
