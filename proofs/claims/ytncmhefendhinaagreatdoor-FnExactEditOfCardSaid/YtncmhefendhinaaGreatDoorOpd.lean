/- Openers: what elements and slices that came in read as, where elements may hold slices. No condition. -/
import Derived.Test.YtncmhefendhinaaGreatDoorOpn
import Derived.Test.YtncmhefendhinaaGreatDoorDsz
namespace Go.Proofs.YtncmhefendhinaaGreatDoor
open Go.RowKit Go.ChangeShapes Go.WideShapes Go.ChangeAt

section
variable {H : Type} {enc : TypeId × Value → H} {P : Program} {w : World} {spare : Nat → Bool} {held : Bool}
/-- How an element's cells are read, inner slices and all. -/
def DecD {α : Type} (H : Type) (enc : TypeId × Value → H) (P : Program) (w : World) (spare : Nat → Bool) (held : Bool) (e : TypeId) (R : Rdg α) (good : α → Prop) : Prop :=
  ∀ n cs x, DataW.trod enc P w 0 spare held n e cs = some x → ∃ y : α, R 0 w y cs ∧ good y
theorem open_slD {α : Type} [Inhabited α] {R : Rdg α} {good : α → Prop} {sz : Nat} (hR : Rok R sz) (hpos : 0 < sz) {t e : TypeId} (ht : P.underlying t = some (.slice e)) (hC : P.cellsOf e = sz) (hd : DecD H enc P w spare held e R good)
    {fuel : Nat} {cs : List Value} {x : DataW H × List MemPlace} (h : DataW.trod enc P w 0 spare held fuel t cs = some x) :
    ∃ (p : Option Addr) (n c : Nat) (l : List α), cs = [.slice p n c] ∧ SlD R sz 0 w p n l ∧ (∀ y ∈ l, good y) ∧ n ≤ 9223372036854775807 := by
  rcases Deep.open_slice ht h with ⟨hcs, _⟩ | ⟨a, len, cap, m, k, D, Pl, hcs, _, hlc, hcm, hm, _, hx⟩
  · exact ⟨none, 0, 0, [], hcs, SlD.zero _ _ _, by simp, Nat.zero_le _⟩
  · have hnm : len ≤ m := by rw [hm]; split <;> omega
    obtain ⟨f, hf⟩ := Deep.choose_lt (α := α) (n := len) (p := fun i y => (∃ cs', w.cells? 0 (a.add (i * P.cellsOf e)) (P.cellsOf e) = some cs' ∧ R 0 w y cs') ∧ good y) (fun i hi => by
      obtain ⟨cs', g1, g2⟩ := hx i (by omega)
      obtain ⟨y, h1, h2⟩ := hd _ _ _ g2
      exact ⟨y, ⟨cs', g1, h1⟩, h2⟩)
    refine ⟨some a, len, cap, (List.range len).map f, hcs, ⟨by simp, ?_⟩, ?_, by unfold maxLen at hcm; omega⟩
    · by_cases h0 : len = 0
      · exact Or.inl h0
      · obtain ⟨b, off, spot⟩ := a
        have hspot : spot = none ∧ b < w.heap.size := by
          obtain ⟨⟨cs', g1, g2⟩, _⟩ := hf 0 (by omega)
          have g0 := (World.cells?_some g1).2.2 0 (by rw [hC]; exact hpos)
          rw [List.getElem?_eq_getElem (by rw [hR.len g2]; exact hpos)] at g0
          exact ⟨by simpa [Addr.add] using World.cell?_spot g0, by simpa [Addr.add] using lt_of_cell g0⟩
        obtain ⟨rfl, hb⟩ := hspot
        refine Or.inr ⟨b, off, rfl, Nat.zero_le _, hb, ?_⟩
        intro i x hx'
        have hi : i < len := by
          rcases Nat.lt_or_ge i len with h' | h'
          · exact h'
          · rw [List.getElem?_eq_none (by simpa using h')] at hx'; cases hx'
        rw [List.getElem?_map, List.getElem?_range hi] at hx'
        simp at hx'
        subst hx'
        obtain ⟨⟨cs', g1, g2⟩, _⟩ := hf i hi
        refine ⟨cs', g2, fun j v hv => ?_⟩
        have hj : j < sz := by rw [← hR.len g2]; exact (List.getElem?_eq_some_iff.1 hv).1
        have g0 := (World.cells?_some g1).2.2 j (by omega)
        rw [hv, hC, Addr.add_lit, Addr.add_lit] at g0
        exact g0
    · intro y hy
      rw [List.mem_map] at hy
      obtain ⟨i, hi, rfl⟩ := hy
      exact (hf i (by simpa using hi)).2
/-- A struct's field, opened. -/
theorem trod_field {t : TypeId} {fs : Array Field} {n : Nat} {cs : List Value} {x : DataW H × List MemPlace} (ht : P.underlying t = some (.struct fs)) (h : DataW.trod enc P w 0 spare held n t cs = some x) (i : Nat) (f : Field) (hf : fs[i]? = some f) :
    ∃ m y, DataW.trod enc P w 0 spare held m f.type ((cs.drop f.offset).take (P.cellsOf f.type)) = some y := by
  obtain ⟨xs, m, _, _, _, hl, hx⟩ := DataW.trod_struct ht h
  have h1 := hx i f hf
  have hi : i < xs.length := by
    rw [hl]
    exact (Array.getElem?_eq_some_iff.1 hf).1
  rw [List.getElem?_eq_getElem hi] at h1
  exact ⟨m, _, h1⟩
theorem trod_len {t : TypeId} {fs : Array Field} {n : Nat} {cs : List Value} {x : DataW H × List MemPlace} (ht : P.underlying t = some (.struct fs)) (h : DataW.trod enc P w 0 spare held n t cs = some x) : cs.length = P.cellsOf t := by
  obtain ⟨xs, m, _, _, hl, _, _⟩ := DataW.trod_struct ht h
  exact hl

theorem fld {t : TypeId} {fs : Array Field} {n : Nat} {cs : List Value} {x : DataW H × List MemPlace} (ht : P.underlying t = some (.struct fs)) (h : DataW.trod enc P w 0 spare held n t cs = some x) (i : Nat) (f : Field) (hf : fs[i]? = some f) (off k : Nat) (ty : TypeId)
    (ho : f.offset = off) (hty : f.type = ty) (hk : P.cellsOf ty = k) (cs' : List Value) (hcs : (cs.drop off).take k = cs') : ∃ m y, DataW.trod enc P w 0 spare held m ty cs' = some y := by
  obtain ⟨m, y, hy⟩ := trod_field ht h i f hf
  rw [ho, hty, hk, hcs] at hy
  exact ⟨m, y, hy⟩
end
section
variable {H : Type} {enc : TypeId × Value → H} {w : World} {spare : Nat → Bool} {held : Bool}
instance inhShD : Inhabited ShD := ⟨⟨0, default⟩⟩
instance inhLbD : Inhabited LbD := ⟨⟨0, default, ⟨#[]⟩⟩⟩
instance inhInD : Inhabited InD := ⟨⟨0, default, 0, 0, 0, 0⟩⟩
instance inhRuD : Inhabited RuD := ⟨⟨0, 0, 0, 0, 0⟩⟩
instance inhWvD : Inhabited WvD := ⟨⟨0, ⟨#[]⟩⟩⟩
instance inhPoD : Inhabited PoD := ⟨⟨⟨#[]⟩, 0⟩⟩
instance inhEdD : Inhabited EdD := ⟨⟨0, 0, 0, ⟨#[]⟩, default, default, default⟩⟩
instance inhDvD : Inhabited DvD := ⟨⟨0, [], 0, 0⟩⟩
instance inhCeD : Inhabited CeD := ⟨⟨⟨#[]⟩, [], [], []⟩⟩
theorem int_of {t : TypeId} {P : Program} (ht : P.underlying t = some (.int .i64)) {n : Nat} {v : Value} {x : DataW H × List MemPlace} (h : DataW.trod enc P w 0 spare held n t [v] = some x) : ∃ i : Int, v = .int .i64 i := by
  obtain ⟨a, e, _, _⟩ := DataW.trod_int ht h
  simp at e
  exact ⟨a, e⟩
theorem str_of {t : TypeId} {P : Program} (ht : P.underlying t = some .string) {n : Nat} {v : Value} {x : DataW H × List MemPlace} (h : DataW.trod enc P w 0 spare held n t [v] = some x) : ∃ s : ByteArray, v = .string s ∧ s.size ≤ 9223372036854775807 := by
  obtain ⟨a, e, _, hs⟩ := DataW.trod_string ht h
  simp at e
  exact ⟨a, e, by unfold maxLen at hs; omega⟩
theorem dec_int {t : TypeId} {P : Program} (ht : P.underlying t = some (.int .i64)) : DecD H enc P w spare held t (Fl enc1) (fun _ => True) := by
  intro n cs x h
  obtain ⟨a, rfl, _, _⟩ := DataW.trod_int ht h
  exact ⟨a, rfl, trivial⟩

theorem len4_Rect {l : List Value} (h : l.length = 4) : ∃ v0 v1 v2 v3, l = [v0, v1, v2, v3] := match l, h with | [v0, v1, v2, v3], _ => ⟨v0, v1, v2, v3, rfl⟩
set_option maxRecDepth 100000 in
theorem decRect : DecD H enc Tryz.prog w spare held 125 (Fl enc4) (fun _ => True) := by
  intro n cs x h
  obtain ⟨v0, v1, v2, v3, rfl⟩ := len4_Rect ((trod_len Tryz.underlying125 h).trans (show Tryz.prog.cellsOf 125 = 4 by kernel_rfl))
  obtain ⟨_, _, h0⟩ := fld Tryz.underlying125 h 0 _ rfl 0 1 2 rfl rfl (by kernel_rfl) [v0] rfl
  obtain ⟨x0, rfl⟩ := int_of Tryz.underlying2 h0
  obtain ⟨_, _, h1⟩ := fld Tryz.underlying125 h 1 _ rfl 1 1 2 rfl rfl (by kernel_rfl) [v1] rfl
  obtain ⟨x1, rfl⟩ := int_of Tryz.underlying2 h1
  obtain ⟨_, _, h2⟩ := fld Tryz.underlying125 h 2 _ rfl 2 1 2 rfl rfl (by kernel_rfl) [v2] rfl
  obtain ⟨x2, rfl⟩ := int_of Tryz.underlying2 h2
  obtain ⟨_, _, h3⟩ := fld Tryz.underlying125 h 3 _ rfl 3 1 2 rfl rfl (by kernel_rfl) [v3] rfl
  obtain ⟨x3, rfl⟩ := int_of Tryz.underlying2 h3
  exact ⟨⟨x0, x1, x2, x3⟩, rfl, trivial⟩
theorem len2_Point {l : List Value} (h : l.length = 2) : ∃ v0 v1, l = [v0, v1] := match l, h with | [v0, v1], _ => ⟨v0, v1, rfl⟩
set_option maxRecDepth 100000 in
theorem decPoint : DecD H enc Tryz.prog w spare held 114 (Fl enc2) (fun _ => True) := by
  intro n cs x h
  obtain ⟨v0, v1, rfl⟩ := len2_Point ((trod_len Tryz.underlying114 h).trans (show Tryz.prog.cellsOf 114 = 2 by kernel_rfl))
  obtain ⟨_, _, h0⟩ := fld Tryz.underlying114 h 0 _ rfl 0 1 2 rfl rfl (by kernel_rfl) [v0] rfl
  obtain ⟨x0, rfl⟩ := int_of Tryz.underlying2 h0
  obtain ⟨_, _, h1⟩ := fld Tryz.underlying114 h 1 _ rfl 1 1 2 rfl rfl (by kernel_rfl) [v1] rfl
  obtain ⟨x1, rfl⟩ := int_of Tryz.underlying2 h1
  exact ⟨⟨x0, x1⟩, rfl, trivial⟩
theorem len3_Transform {l : List Value} (h : l.length = 3) : ∃ v0 v1 v2, l = [v0, v1, v2] := match l, h with | [v0, v1, v2], _ => ⟨v0, v1, v2, rfl⟩
set_option maxRecDepth 100000 in
theorem decTransform : DecD H enc Tryz.prog w spare held 130 (Fl enc3) (fun _ => True) := by
  intro n cs x h
  obtain ⟨v0, v1, v2, rfl⟩ := len3_Transform ((trod_len Tryz.underlying130 h).trans (show Tryz.prog.cellsOf 130 = 3 by kernel_rfl))
  obtain ⟨_, _, h0⟩ := fld Tryz.underlying130 h 0 _ rfl 0 1 2 rfl rfl (by kernel_rfl) [v0] rfl
  obtain ⟨x0, rfl⟩ := int_of Tryz.underlying2 h0
  obtain ⟨_, _, h1⟩ := fld Tryz.underlying130 h 1 _ rfl 1 1 2 rfl rfl (by kernel_rfl) [v1] rfl
  obtain ⟨x1, rfl⟩ := int_of Tryz.underlying2 h1
  obtain ⟨_, _, h2⟩ := fld Tryz.underlying130 h 2 _ rfl 2 1 2 rfl rfl (by kernel_rfl) [v2] rfl
  obtain ⟨x2, rfl⟩ := int_of Tryz.underlying2 h2
  exact ⟨⟨x0, x1, x2⟩, rfl, trivial⟩
theorem len5_Shape {l : List Value} (h : l.length = 5) : ∃ v0 v1 v2 v3 v4, l = [v0, v1, v2, v3, v4] := match l, h with | [v0, v1, v2, v3, v4], _ => ⟨v0, v1, v2, v3, v4, rfl⟩
set_option maxRecDepth 100000 in
theorem decShape : DecD H enc Tryz.prog w spare held 127 (Fl encSh) (fun _ => True) := by
  intro n cs x h
  obtain ⟨v0, v1, v2, v3, v4, rfl⟩ := len5_Shape ((trod_len Tryz.underlying127 h).trans (show Tryz.prog.cellsOf 127 = 5 by kernel_rfl))
  obtain ⟨_, _, h0⟩ := fld Tryz.underlying127 h 0 _ rfl 0 1 2 rfl rfl (by kernel_rfl) [v0] rfl
  obtain ⟨x0, rfl⟩ := int_of Tryz.underlying2 h0
  obtain ⟨_, _, h1⟩ := fld Tryz.underlying127 h 1 _ rfl 1 4 125 rfl rfl (by kernel_rfl) [v1, v2, v3, v4] rfl
  obtain ⟨x1, e1, g1⟩ := decRect _ _ _ h1
  change [v1, v2, v3, v4] = [.int .i64 x1.a, .int .i64 x1.b, .int .i64 x1.c, .int .i64 x1.d] at e1
  cases e1
  exact ⟨⟨x0, x1⟩, rfl, trivial⟩
theorem len4_Label {l : List Value} (h : l.length = 4) : ∃ v0 v1 v2 v3, l = [v0, v1, v2, v3] := match l, h with | [v0, v1, v2, v3], _ => ⟨v0, v1, v2, v3, rfl⟩
set_option maxRecDepth 100000 in
theorem decLabel : DecD H enc Tryz.prog w spare held 116 (Fl encLb) (fun x => x.s.size ≤ 9223372036854775807) := by
  intro n cs x h
  obtain ⟨v0, v1, v2, v3, rfl⟩ := len4_Label ((trod_len Tryz.underlying116 h).trans (show Tryz.prog.cellsOf 116 = 4 by kernel_rfl))
  obtain ⟨_, _, h0⟩ := fld Tryz.underlying116 h 0 _ rfl 0 1 2 rfl rfl (by kernel_rfl) [v0] rfl
  obtain ⟨x0, rfl⟩ := int_of Tryz.underlying2 h0
  obtain ⟨_, _, h1⟩ := fld Tryz.underlying116 h 1 _ rfl 1 2 114 rfl rfl (by kernel_rfl) [v1, v2] rfl
  obtain ⟨x1, e1, g1⟩ := decPoint _ _ _ h1
  change [v1, v2] = [.int .i64 x1.a, .int .i64 x1.b] at e1
  cases e1
  obtain ⟨_, _, h2⟩ := fld Tryz.underlying116 h 2 _ rfl 3 1 9 rfl rfl (by kernel_rfl) [v3] rfl
  obtain ⟨x2, rfl, g2⟩ := str_of Tryz.underlying9 h2
  exact ⟨⟨x0, x1, x2⟩, rfl, g2⟩
theorem len8_Instance {l : List Value} (h : l.length = 8) : ∃ v0 v1 v2 v3 v4 v5 v6 v7, l = [v0, v1, v2, v3, v4, v5, v6, v7] := match l, h with | [v0, v1, v2, v3, v4, v5, v6, v7], _ => ⟨v0, v1, v2, v3, v4, v5, v6, v7, rfl⟩
set_option maxRecDepth 100000 in
theorem decInstance : DecD H enc Tryz.prog w spare held 132 (Fl encIn) (fun _ => True) := by
  intro n cs x h
  obtain ⟨v0, v1, v2, v3, v4, v5, v6, v7, rfl⟩ := len8_Instance ((trod_len Tryz.underlying132 h).trans (show Tryz.prog.cellsOf 132 = 8 by kernel_rfl))
  obtain ⟨_, _, h0⟩ := fld Tryz.underlying132 h 0 _ rfl 0 1 2 rfl rfl (by kernel_rfl) [v0] rfl
  obtain ⟨x0, rfl⟩ := int_of Tryz.underlying2 h0
  obtain ⟨_, _, h1⟩ := fld Tryz.underlying132 h 1 _ rfl 1 3 130 rfl rfl (by kernel_rfl) [v1, v2, v3] rfl
  obtain ⟨x1, e1, g1⟩ := decTransform _ _ _ h1
  change [v1, v2, v3] = [.int .i64 x1.a, .int .i64 x1.b, .int .i64 x1.c] at e1
  cases e1
  obtain ⟨_, _, h2⟩ := fld Tryz.underlying132 h 2 _ rfl 4 1 2 rfl rfl (by kernel_rfl) [v4] rfl
  obtain ⟨x2, rfl⟩ := int_of Tryz.underlying2 h2
  obtain ⟨_, _, h3⟩ := fld Tryz.underlying132 h 3 _ rfl 5 1 2 rfl rfl (by kernel_rfl) [v5] rfl
  obtain ⟨x3, rfl⟩ := int_of Tryz.underlying2 h3
  obtain ⟨_, _, h4⟩ := fld Tryz.underlying132 h 4 _ rfl 6 1 2 rfl rfl (by kernel_rfl) [v6] rfl
  obtain ⟨x4, rfl⟩ := int_of Tryz.underlying2 h4
  obtain ⟨_, _, h5⟩ := fld Tryz.underlying132 h 5 _ rfl 7 1 2 rfl rfl (by kernel_rfl) [v7] rfl
  obtain ⟨x5, rfl⟩ := int_of Tryz.underlying2 h5
  exact ⟨⟨x0, x1, x2, x3, x4, x5⟩, rfl, trivial⟩
theorem len5_Rule {l : List Value} (h : l.length = 5) : ∃ v0 v1 v2 v3 v4, l = [v0, v1, v2, v3, v4] := match l, h with | [v0, v1, v2, v3, v4], _ => ⟨v0, v1, v2, v3, v4, rfl⟩
theorem len2_Waiver {l : List Value} (h : l.length = 2) : ∃ v0 v1, l = [v0, v1] := match l, h with | [v0, v1], _ => ⟨v0, v1, rfl⟩
theorem len2_Port {l : List Value} (h : l.length = 2) : ∃ v0 v1, l = [v0, v1] := match l, h with | [v0, v1], _ => ⟨v0, v1, rfl⟩
theorem len21_Edit {l : List Value} (h : l.length = 21) : ∃ v0 v1 v2 v3 v4 v5 v6 v7 v8 v9 v10 v11 v12 v13 v14 v15 v16 v17 v18 v19 v20, l = [v0, v1, v2, v3, v4, v5, v6, v7, v8, v9, v10, v11, v12, v13, v14, v15, v16, v17, v18, v19, v20] := match l, h with | [v0, v1, v2, v3, v4, v5, v6, v7, v8, v9, v10, v11, v12, v13, v14, v15, v16, v17, v18, v19, v20], _ => ⟨v0, v1, v2, v3, v4, v5, v6, v7, v8, v9, v10, v11, v12, v13, v14, v15, v16, v17, v18, v19, v20, rfl⟩
theorem len4_Device {l : List Value} (h : l.length = 4) : ∃ v0 v1 v2 v3, l = [v0, v1, v2, v3] := match l, h with | [v0, v1, v2, v3], _ => ⟨v0, v1, v2, v3, rfl⟩
theorem len4_Cell {l : List Value} (h : l.length = 4) : ∃ v0 v1 v2 v3, l = [v0, v1, v2, v3] := match l, h with | [v0, v1, v2, v3], _ => ⟨v0, v1, v2, v3, rfl⟩
set_option maxRecDepth 100000 in
theorem decCell : DecD H enc Tryz.prog w spare held 66 CeR (FitCe) := by
  intro n cs x h
  obtain ⟨v0, v1, v2, v3, rfl⟩ := len4_Cell ((trod_len Tryz.underlying66 h).trans (show Tryz.prog.cellsOf 66 = 4 by kernel_rfl))
  obtain ⟨_, _, h0⟩ := fld Tryz.underlying66 h 0 _ rfl 0 1 9 rfl rfl (by kernel_rfl) [v0] rfl
  obtain ⟨x0, rfl, g0⟩ := str_of Tryz.underlying9 h0
  obtain ⟨_, _, h1⟩ := fld Tryz.underlying66 h 1 _ rfl 1 1 62 rfl rfl (by kernel_rfl) [v1] rfl
  obtain ⟨p1, n1, c1, x1, e1, s1, g1, m1⟩ := open_slD okShape (by omega) Tryz.underlying62 (by kernel_rfl) decShape h1
  cases e1
  obtain ⟨_, _, h2⟩ := fld Tryz.underlying66 h 2 _ rfl 2 1 63 rfl rfl (by kernel_rfl) [v2] rfl
  obtain ⟨p2, n2, c2, x2, e2, s2, g2, m2⟩ := open_slD okLabel (by omega) Tryz.underlying63 (by kernel_rfl) decLabel h2
  cases e2
  obtain ⟨_, _, h3⟩ := fld Tryz.underlying66 h 3 _ rfl 3 1 64 rfl rfl (by kernel_rfl) [v3] rfl
  obtain ⟨p3, n3, c3, x3, e3, s3, g3, m3⟩ := open_slD okInstance (by omega) Tryz.underlying64 (by kernel_rfl) decInstance h3
  cases e3
  exact ⟨⟨x0, x1, x2, x3⟩, ⟨p1, n1, c1, p2, n2, c2, p3, n3, c3, rfl, s1, s2, s3⟩, ⟨g0, (by rw [s1.length]; exact m1), (by rw [s2.length]; exact m2), g2, (by rw [s3.length]; exact m3)⟩⟩
theorem len8_Session {l : List Value} (h : l.length = 8) : ∃ v0 v1 v2 v3 v4 v5 v6 v7, l = [v0, v1, v2, v3, v4, v5, v6, v7] := match l, h with | [v0, v1, v2, v3, v4, v5, v6, v7], _ => ⟨v0, v1, v2, v3, v4, v5, v6, v7, rfl⟩
theorem openLibrary {n : Nat} {v0 : Value} {x : DataW H × List MemPlace} (h : DataW.trod enc Tryz.prog w 0 spare held n 24 [v0] = some x) :
    ∃ (l : List CeD) (p : Option Addr) (n c : Nat), v0 = .slice p n c ∧ SlD CeR 4 0 w p n l ∧ (∀ y ∈ l, FitCe y) ∧ n ≤ 9223372036854775807 := by
  obtain ⟨_, _, h0⟩ := fld Tryz.underlying24 h 0 _ rfl 0 1 22 rfl rfl (by kernel_rfl) [v0] rfl
  obtain ⟨p, n, c, l, e, s, g, m⟩ := open_slD CeR.ok (by omega) Tryz.underlying22 (by kernel_rfl) decCell h0
  cases e
  exact ⟨l, p, n, c, rfl, s, g, m⟩
end
end Go.Proofs.YtncmhefendhinaaGreatDoor
