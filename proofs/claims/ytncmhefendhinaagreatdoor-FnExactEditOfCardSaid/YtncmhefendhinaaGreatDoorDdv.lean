/- Contracts of toX and eqX at devices and cells, which hold slices. Condition: at most 2^20 elements each. -/
import Derived.Test.YtncmhefendhinaaGreatDoorDse
import Derived.Test.YtncmhefendhinaaGreatDoorDsl
import Derived.Test.YtncmhefendhinaaGreatDoorArr
namespace Go.Proofs.YtncmhefendhinaaGreatDoor
open Go.RowKit

theorem SlD.put {α : Type} {R : Rdg α} {sz base n g : Nat} {w : World} {p : Option Addr} {l : List α} (hR : Rok R sz) (h : SlD R sz base w p n l) (hg : g < base) (j : Nat) (v : Value) : SlD R sz base (w.setCell ⟨g, j, none⟩ v) p n l :=
  h.mt hR ((Mut.refl w [g]).setCell (p := ⟨g, j, none⟩) (by simp) v) hg
theorem SlD.flat {α : Type} {enc : α → List Value} {sz base n : Nat} {w : World} {p : Option Addr} {l : List α} (h : SlD (Fl enc) sz base w p n l) : SlT enc sz w p n l :=
  ⟨h.1, h.2.elim Or.inl fun ⟨b, off, hp, _, hb, hc⟩ => Or.inr ⟨b, off, hp, hb, fun k x hx j v hv => by
    obtain ⟨cs, h1, h2⟩ := hc k x hx
    obtain rfl : cs = enc x := h1
    exact h2 j v hv⟩⟩
theorem SlD.of_owns {α : Type} {enc : α → List Value} {sz base n c : Nat} {w : World} {e : TypeId} {p : Option Addr} {l : List α} (hsz : ∀ x, (enc x).length = sz) (hl : l.length = n) (h : w.ownsRow base e sz (.slice p n c) n (l.flatMap enc)) : SlD (Fl enc) sz base w p n l := by
  have hs := SlT.of_owns hsz hl h
  refine ⟨hl, hs.2.elim Or.inl fun ⟨b, off, hp, hb, hc⟩ => ?_⟩
  by_cases h0 : n = 0
  · exact Or.inl h0
  · refine Or.inr ⟨b, off, hp, ?_, hb, fun k x hx => ⟨enc x, rfl, fun j v hv => hc k x hx j v hv⟩⟩
    subst hp
    exact (h.lt b rfl).1
set_option maxRecDepth 100000 in
set_option maxHeartbeats 4000000 in
theorem toCellD_any (x : CeD) (p1 p2 p3 : Option Addr) (n1 c1 n2 c2 n3 c3 base : Nat) (w : World) (s1 : SlD (Fl encSh) 5 base w p1 n1 x.shs) (m1 : n1 ≤ 1048576) (s2 : SlD (Fl encLb) 4 base w p2 n2 x.lbs) (m2 : n2 ≤ 1048576) (s3 : SlD (Fl encIn) 8 base w p3 n3 x.ins) (m3 : n3 ≤ 1048576) :
    Calls Tryz.prog 28 #[.agg #[.string x.s, .slice p1 n1 c1, .slice p2 n2 c2, .slice p3 n3 c3]] w fun e w' => ∃ q1 q2 q3, e = .returned (.agg #[.string x.s, .slice q1 n1 n1, .slice q2 n2 n2, .slice q3 n3 n3]) ∧ SlD (Fl encSh) 5 w.heap.size w' q1 n1 x.shs ∧ SlD (Fl encLb) 4 w.heap.size w' q2 n2 x.lbs ∧ SlD (Fl encIn) 8 w.heap.size w' q3 n3 x.ins ∧ Ext w w' := by
  go_enter Tryz.func28, Tryz.ntmps28
  go_upto_region 2 with (fail)
  generalize hW : World.alloc (World.alloc (World.alloc _ _) _) _ = W0
  obtain ⟨E0, z0, b0, b1, b2⟩ := boxes3 hW
  clear hW
  replace z0 := hid z0
  have b0 : Blk W0 w.heap.size [_, _, _, _] _ := b0
  have b1 : Blk W0 (w.heap.size + 1) [_, _, _, _] _ := b1
  have b2 : Blk W0 (w.heap.size + 1 + 1) [_, _, _, _] _ := b2
  have E := hid E0
  clear E0
  replace b0 := hid b0
  replace b1 := hid b1
  replace b2 := hid b2
  have g0 := b0.out.cells
  have l0 := b0.out.lt
  have g1 := b1.out.cells
  have f1 := b1.out.free
  have l1 := b1.out.lt
  have g2 := b2.out.cells
  have f2 := b2.out.free
  have l2 := b2.out.lt
  have EX1 := hid (E.out.setCell (p := ⟨w.heap.size + 1 + 1, 0, none⟩) (by show w.heap.size ≤ w.heap.size + 1 + 1; omega) (.string x.s))
  go_wp2_with fail
  refine (toShapeSD_any p1 n1 c1 base x.shs _ (s1.ext okShape EX1.out) m1).mono ?_
  rintro e w1 ⟨q1, rfl, t1, E1⟩
  replace t1 := hid (t1.low okShape (b' := w.heap.size + 3) (by have := z0.out; simp [World.setCell]; omega))
  have z1 := hid (show w.heap.size + 3 ≤ w1.heap.size from by have := z0.out; have := E1.le; simp [World.setCell] at this; omega)
  clear z0
  have z0 := z1
  clear z1
  replace b0 := hid ((b0.out.other (B := w.heap.size + 1 + 1) 0 (.string x.s) (by omega)).ext E1)
  replace b1 := hid ((b1.out.other (B := w.heap.size + 1 + 1) 0 (.string x.s) (by omega)).ext E1)
  replace b2 := hid ((b2.out.set 0 (.string x.s)).ext E1)
  replace E := hid (EX1.out.trans E1)
  clear g0 l0 g1 f1 l1 g2 f2 l2 EX1 E1
  have g0 := b0.out.cells
  have l0 := b0.out.lt
  have g1 := b1.out.cells
  have f1 := b1.out.free
  have l1 := b1.out.lt
  have g2 := b2.out.cells
  have f2 := b2.out.free
  have l2 := b2.out.lt
  have EX2 := hid (E.out.setCell (p := ⟨w.heap.size + 1 + 1, 1, none⟩) (by show w.heap.size ≤ w.heap.size + 1 + 1; omega) (.slice q1 n1 n1))
  go_wp2_with fail
  refine (toLabelSD_any p2 n2 c2 base x.lbs _ (s2.ext okLabel EX2.out) m2).mono ?_
  rintro e w2 ⟨q2, rfl, t2, E2⟩
  replace t2 := hid (t2.low okLabel (b' := w.heap.size + 3) (by have := z0.out; simp [World.setCell]; omega))
  have z2 := hid (show w.heap.size + 3 ≤ w2.heap.size from by have := z0.out; have := E2.le; simp [World.setCell] at this; omega)
  clear z0
  have z0 := z2
  clear z2
  replace t1 := hid ((t1.out.put okShape (g := w.heap.size + 1 + 1) (by omega) 1 (.slice q1 n1 n1)).ext okShape E2)
  replace b0 := hid ((b0.out.other (B := w.heap.size + 1 + 1) 1 (.slice q1 n1 n1) (by omega)).ext E2)
  replace b1 := hid ((b1.out.other (B := w.heap.size + 1 + 1) 1 (.slice q1 n1 n1) (by omega)).ext E2)
  replace b2 := hid ((b2.out.set 1 (.slice q1 n1 n1)).ext E2)
  replace E := hid (EX2.out.trans E2)
  clear g0 l0 g1 f1 l1 g2 f2 l2 EX2 E2
  have g0 := b0.out.cells
  have l0 := b0.out.lt
  have g1 := b1.out.cells
  have f1 := b1.out.free
  have l1 := b1.out.lt
  have g2 := b2.out.cells
  have f2 := b2.out.free
  have l2 := b2.out.lt
  have EX3 := hid (E.out.setCell (p := ⟨w.heap.size + 1 + 1, 2, none⟩) (by show w.heap.size ≤ w.heap.size + 1 + 1; omega) (.slice q2 n2 n2))
  go_wp2_with fail
  refine (toInstanceSD_any p3 n3 c3 base x.ins _ (s3.ext okInstance EX3.out) m3).mono ?_
  rintro e w3 ⟨q3, rfl, t3, E3⟩
  replace t3 := hid (t3.low okInstance (b' := w.heap.size + 3) (by have := z0.out; simp [World.setCell]; omega))
  have z3 := hid (show w.heap.size + 3 ≤ w3.heap.size from by have := z0.out; have := E3.le; simp [World.setCell] at this; omega)
  clear z0
  have z0 := z3
  clear z3
  replace t1 := hid ((t1.out.put okShape (g := w.heap.size + 1 + 1) (by omega) 2 (.slice q2 n2 n2)).ext okShape E3)
  replace t2 := hid ((t2.out.put okLabel (g := w.heap.size + 1 + 1) (by omega) 2 (.slice q2 n2 n2)).ext okLabel E3)
  replace b0 := hid ((b0.out.other (B := w.heap.size + 1 + 1) 2 (.slice q2 n2 n2) (by omega)).ext E3)
  replace b1 := hid ((b1.out.other (B := w.heap.size + 1 + 1) 2 (.slice q2 n2 n2) (by omega)).ext E3)
  replace b2 := hid ((b2.out.set 2 (.slice q2 n2 n2)).ext E3)
  replace E := hid (EX3.out.trans E3)
  clear g0 l0 g1 f1 l1 g2 f2 l2 EX3 E3
  have g0 := b0.out.cells
  have l0 := b0.out.lt
  have g1 := b1.out.cells
  have f1 := b1.out.free
  have l1 := b1.out.lt
  have g2 := b2.out.cells
  have f2 := b2.out.free
  have l2 := b2.out.lt
  go_wp2_with fail
  have kB := (((((b1.out.other (B := w.heap.size + 1 + 1) 3 (.slice q3 n3 n3) (by omega)).set 0 (.string x.s)).set 1 (.slice q1 n1 n1)).set 2 (.slice q2 n2 n2)).set 3 (.slice q3 n3 n3)).cells
  have hE := (((((E.out.setCell (p := ⟨w.heap.size + 1 + 1, 3, none⟩) (by show w.heap.size ≤ w.heap.size + 1 + 1; omega) (.slice q3 n3 n3)).setCell (p := ⟨w.heap.size + 1, 0, none⟩) (by show w.heap.size ≤ w.heap.size + 1; omega) (.string x.s)).setCell (p := ⟨w.heap.size + 1, 1, none⟩) (by show w.heap.size ≤ w.heap.size + 1; omega) (.slice q1 n1 n1)).setCell (p := ⟨w.heap.size + 1, 2, none⟩) (by show w.heap.size ≤ w.heap.size + 1; omega) (.slice q2 n2 n2)).setCell (p := ⟨w.heap.size + 1, 3, none⟩) (by show w.heap.size ≤ w.heap.size + 1; omega) (.slice q3 n3 n3))
  refine bodyPost_ret (v := .agg #[.string x.s, .slice q1 n1 n1, .slice q2 n2 n2, .slice q3 n3 n3]) (by simp [results, Tryz.results28, go_sem, kB]) rfl ⟨q1, q2, q3, rfl, (((((t1.out.put okShape (g := w.heap.size + 1 + 1) (by omega) 3 (.slice q3 n3 n3)).put okShape (g := w.heap.size + 1) (by omega) 0 (.string x.s)).put okShape (g := w.heap.size + 1) (by omega) 1 (.slice q1 n1 n1)).put okShape (g := w.heap.size + 1) (by omega) 2 (.slice q2 n2 n2)).put okShape (g := w.heap.size + 1) (by omega) 3 (.slice q3 n3 n3)).low okShape (by omega), (((((t2.out.put okLabel (g := w.heap.size + 1 + 1) (by omega) 3 (.slice q3 n3 n3)).put okLabel (g := w.heap.size + 1) (by omega) 0 (.string x.s)).put okLabel (g := w.heap.size + 1) (by omega) 1 (.slice q1 n1 n1)).put okLabel (g := w.heap.size + 1) (by omega) 2 (.slice q2 n2 n2)).put okLabel (g := w.heap.size + 1) (by omega) 3 (.slice q3 n3 n3)).low okLabel (by omega), (((((t3.out.put okInstance (g := w.heap.size + 1 + 1) (by omega) 3 (.slice q3 n3 n3)).put okInstance (g := w.heap.size + 1) (by omega) 0 (.string x.s)).put okInstance (g := w.heap.size + 1) (by omega) 1 (.slice q1 n1 n1)).put okInstance (g := w.heap.size + 1) (by omega) 2 (.slice q2 n2 n2)).put okInstance (g := w.heap.size + 1) (by omega) 3 (.slice q3 n3 n3)).low okInstance (by omega), hE⟩
set_option maxRecDepth 100000 in
set_option maxHeartbeats 4000000 in
theorem eqCellD_any (x : CeD) (p1 q1 p2 q2 p3 q3 : Option Addr) (n1 c1 d1 n2 c2 d2 n3 c3 d3 b1 b2 : Nat) (w : World) (s1 : SlD (Fl encSh) 5 b1 w p1 n1 x.shs) (t1 : SlD (Fl encSh) 5 b2 w q1 n1 x.shs) (m1 : n1 ≤ 1048576) (s2 : SlD (Fl encLb) 4 b1 w p2 n2 x.lbs) (t2 : SlD (Fl encLb) 4 b2 w q2 n2 x.lbs) (m2 : n2 ≤ 1048576) (s3 : SlD (Fl encIn) 8 b1 w p3 n3 x.ins) (t3 : SlD (Fl encIn) 8 b2 w q3 n3 x.ins) (m3 : n3 ≤ 1048576) :
    Calls Tryz.prog 37 #[.agg #[.string x.s, .slice p1 n1 c1, .slice p2 n2 c2, .slice p3 n3 c3], .agg #[.string x.s, .slice q1 n1 d1, .slice q2 n2 d2, .slice q3 n3 d3]] w fun e w' => e = .returned (.bool true) ∧ Ext w w' := by
  go_enter Tryz.func37, Tryz.ntmps37
  go_upto_region 1 with (fail)
  generalize hW : World.alloc (World.alloc _ _) _ = W0
  obtain ⟨E0, z0, a0, a1⟩ := boxes2 hW
  clear hW z0
  replace a0 := hid (show Blk W0 w.heap.size [_, _, _, _] _ from a0)
  replace a1 := hid (show Blk W0 (w.heap.size + 1) [_, _, _, _] _ from a1)
  have g0 := a0.out.cells
  have l0 := a0.out.lt
  have g1 := a1.out.cells
  have l1 := a1.out.lt
  have E := Ext.refl W0
  go_wp2_with fail
  refine (eqShapeSD_any p1 q1 n1 c1 d1 b1 b2 x.shs _ (s1.ext okShape (E0.trans E)) (t1.ext okShape (E0.trans E)) m1).mono ?_
  rintro e w1 ⟨rfl, E1⟩
  replace E := E.trans E1
  clear g0 l0 g1 l1 E1
  have g0 := (a0.out.ext E).cells
  have l0 := (a0.out.ext E).lt
  have g1 := (a1.out.ext E).cells
  have l1 := (a1.out.ext E).lt
  go_wp2_with fail
  refine (eqLabelSD_any p2 q2 n2 c2 d2 b1 b2 x.lbs _ (s2.ext okLabel (E0.trans E)) (t2.ext okLabel (E0.trans E)) m2).mono ?_
  rintro e w2 ⟨rfl, E2⟩
  replace E := E.trans E2
  clear g0 l0 g1 l1 E2
  have g0 := (a0.out.ext E).cells
  have l0 := (a0.out.ext E).lt
  have g1 := (a1.out.ext E).cells
  have l1 := (a1.out.ext E).lt
  go_wp2_with fail
  refine (eqInstanceSD_any p3 q3 n3 c3 d3 b1 b2 x.ins _ (s3.ext okInstance (E0.trans E)) (t3.ext okInstance (E0.trans E)) m3).mono ?_
  rintro e w3 ⟨rfl, E3⟩
  replace E := E.trans E3
  clear g0 l0 g1 l1 E3
  have g0 := (a0.out.ext E).cells
  have l0 := (a0.out.ext E).lt
  have g1 := (a1.out.ext E).cells
  have l1 := (a1.out.ext E).lt
  go_wp2_with fail
  go_ret
  exact ⟨rfl, E0.trans E⟩
end Go.Proofs.YtncmhefendhinaaGreatDoor
