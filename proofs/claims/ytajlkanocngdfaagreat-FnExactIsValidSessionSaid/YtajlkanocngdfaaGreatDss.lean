/- Contracts of toSession and eqSession. Condition: at most 2^20 elements each. -/
import Derived.Test.YtajlkanocngdfaaGreatDst
namespace Go.Proofs.YtajlkanocngdfaaGreat
open Go.RowKit

structure SeD where
  ed : EtD
  rules : List RuD
  waivers : List WvD
  nl : NlD
set_option maxRecDepth 100000 in
set_option maxHeartbeats 4000000 in
theorem toSessionD_any (x : SeD) (p1 p2 p3 p4 p5 p6 p7 : Option Addr) (n1 c1 n2 c2 n3 c3 n4 c4 n5 c5 n6 c6 n7 c7 base : Nat) (w : World) (s1 : SlD CeR 4 base w p1 n1 x.ed.cells) (m1 : n1 ≤ 1048576 ∧ ∀ y ∈ x.ed.cells, y.shs.length ≤ 1048576 ∧ y.lbs.length ≤ 1048576 ∧ y.ins.length ≤ 1048576) (s2 : SlD (RwD (Fl encEd) 21) 1 base w p2 n2 x.ed.undos) (m2 : n2 ≤ 1048576 ∧ ∀ y ∈ x.ed.undos, y.length ≤ 1048576) (s3 : SlD (RwD (Fl encEd) 21) 1 base w p3 n3 x.ed.redos) (m3 : n3 ≤ 1048576 ∧ ∀ y ∈ x.ed.redos, y.length ≤ 1048576) (s4 : SlD (Fl encRu) 5 base w p4 n4 x.rules) (m4 : n4 ≤ 1048576) (s5 : SlD (Fl encWv) 2 base w p5 n5 x.waivers) (m5 : n5 ≤ 1048576) (s6 : SlD DvR 4 base w p6 n6 x.nl.devs) (m6 : n6 ≤ 1048576 ∧ ∀ y ∈ x.nl.devs, y.pins.length ≤ 1048576) (s7 : SlD (Fl encPo) 2 base w p7 n7 x.nl.ports) (m7 : n7 ≤ 1048576) :
    Calls Tryz.prog 6 #[.agg #[.slice p1 n1 c1, .slice p2 n2 c2, .slice p3 n3 c3, .slice p4 n4 c4, .slice p5 n5 c5, .int .i64 x.nl.nets, .slice p6 n6 c6, .slice p7 n7 c7]] w fun e w' => ∃ q1 q2 q3 q4 q5 q6 q7, e = .returned (.agg #[.slice q1 n1 n1, .slice q2 n2 n2, .slice q3 n3 n3, .slice q4 n4 n4, .slice q5 n5 n5, .int .i64 x.nl.nets, .slice q6 n6 n6, .slice q7 n7 n7]) ∧ SlD CeR 4 w.heap.size w' q1 n1 x.ed.cells ∧ SlD (RwD (Fl encEd) 21) 1 w.heap.size w' q2 n2 x.ed.undos ∧ SlD (RwD (Fl encEd) 21) 1 w.heap.size w' q3 n3 x.ed.redos ∧ SlD (Fl encRu) 5 w.heap.size w' q4 n4 x.rules ∧ SlD (Fl encWv) 2 w.heap.size w' q5 n5 x.waivers ∧ SlD DvR 4 w.heap.size w' q6 n6 x.nl.devs ∧ SlD (Fl encPo) 2 w.heap.size w' q7 n7 x.nl.ports ∧ Ext w w' := by
  go_enter Tryz.func6, Tryz.ntmps6
  go_upto_region 2 with (fail)
  generalize hW : World.alloc (World.alloc (World.alloc _ _) _) _ = W0
  obtain ⟨E0, z0, b0, b1, b2⟩ := boxes3 hW
  clear hW
  replace z0 := hid z0
  have b0 : Blk W0 w.heap.size [_, _, _, _, _, _, _, _] _ := b0
  have b1 : Blk W0 (w.heap.size + 1) [_, _, _, _, _, _, _, _] _ := b1
  have b2 : Blk W0 (w.heap.size + 1 + 1) [_, _, _, _, _, _, _, _] _ := b2
  have E := hid E0
  clear E0
  replace b0 := hid b0
  replace b1 := hid b1
  replace b2 := hid b2
  have g0 := b0.out.cells
  have l0 := b0.out.lt
  have g1 := b1.out.cells
  have f1 := b1.out.free
  have l1 := b1.out.lt
  have g2 := b2.out.cells
  have f2 := b2.out.free
  have l2 := b2.out.lt
  have EX1 := hid E.out
  go_wp2_with fail
  refine (toEditorD_any x.ed p1 p2 p3 n1 c1 n2 c2 n3 c3 base _ (s1.ext CeR.ok EX1.out) m1 (s2.ext (RwD.ok okEdit) EX1.out) m2 (s3.ext (RwD.ok okEdit) EX1.out) m3).mono ?_
  rintro e w1 ⟨q1, q2, q3, rfl, t1, t2, t3, E1⟩
  replace t1 := hid (t1.low CeR.ok (b' := w.heap.size + 3) (by have := z0.out; omega))
  replace t2 := hid (t2.low (RwD.ok okEdit) (b' := w.heap.size + 3) (by have := z0.out; omega))
  replace t3 := hid (t3.low (RwD.ok okEdit) (b' := w.heap.size + 3) (by have := z0.out; omega))
  have z1 := hid (show w.heap.size + 3 ≤ w1.heap.size from by have := z0.out; have := E1.le; omega)
  clear z0
  have z0 := z1
  clear z1
  replace b0 := hid (b0.out.ext E1)
  replace b1 := hid (b1.out.ext E1)
  replace b2 := hid (b2.out.ext E1)
  replace E := hid (EX1.out.trans E1)
  clear g0 l0 g1 f1 l1 g2 f2 l2 EX1 E1
  have g0 := b0.out.cells
  have l0 := b0.out.lt
  have g1 := b1.out.cells
  have f1 := b1.out.free
  have l1 := b1.out.lt
  have g2 := b2.out.cells
  have f2 := b2.out.free
  have l2 := b2.out.lt
  have EX2 := hid (((E.out.setCell (p := ⟨w.heap.size + 1 + 1, 0, none⟩) (by show w.heap.size ≤ w.heap.size + 1 + 1; omega) (.slice q1 n1 n1)).setCell (p := ⟨w.heap.size + 1 + 1, 1, none⟩) (by show w.heap.size ≤ w.heap.size + 1 + 1; omega) (.slice q2 n2 n2)).setCell (p := ⟨w.heap.size + 1 + 1, 2, none⟩) (by show w.heap.size ≤ w.heap.size + 1 + 1; omega) (.slice q3 n3 n3))
  go_wp2_with fail
  refine (toDeckD_any x.rules p4 n4 c4 base _ (s4.ext okRule EX2.out) m4).mono ?_
  rintro e w2 ⟨q4, rfl, t4, E2⟩
  replace t4 := hid (t4.low okRule (b' := w.heap.size + 3) (by have := z0.out; simp [World.setCell]; omega))
  have z2 := hid (show w.heap.size + 3 ≤ w2.heap.size from by have := z0.out; have := E2.le; simp [World.setCell] at this; omega)
  clear z0
  have z0 := z2
  clear z2
  replace t1 := hid ((((t1.out.put CeR.ok (g := w.heap.size + 1 + 1) (by omega) 0 (.slice q1 n1 n1)).put CeR.ok (g := w.heap.size + 1 + 1) (by omega) 1 (.slice q2 n2 n2)).put CeR.ok (g := w.heap.size + 1 + 1) (by omega) 2 (.slice q3 n3 n3)).ext CeR.ok E2)
  replace t2 := hid ((((t2.out.put (RwD.ok okEdit) (g := w.heap.size + 1 + 1) (by omega) 0 (.slice q1 n1 n1)).put (RwD.ok okEdit) (g := w.heap.size + 1 + 1) (by omega) 1 (.slice q2 n2 n2)).put (RwD.ok okEdit) (g := w.heap.size + 1 + 1) (by omega) 2 (.slice q3 n3 n3)).ext (RwD.ok okEdit) E2)
  replace t3 := hid ((((t3.out.put (RwD.ok okEdit) (g := w.heap.size + 1 + 1) (by omega) 0 (.slice q1 n1 n1)).put (RwD.ok okEdit) (g := w.heap.size + 1 + 1) (by omega) 1 (.slice q2 n2 n2)).put (RwD.ok okEdit) (g := w.heap.size + 1 + 1) (by omega) 2 (.slice q3 n3 n3)).ext (RwD.ok okEdit) E2)
  replace b0 := hid ((((b0.out.other (B := w.heap.size + 1 + 1) 0 (.slice q1 n1 n1) (by omega)).other (B := w.heap.size + 1 + 1) 1 (.slice q2 n2 n2) (by omega)).other (B := w.heap.size + 1 + 1) 2 (.slice q3 n3 n3) (by omega)).ext E2)
  replace b1 := hid ((((b1.out.other (B := w.heap.size + 1 + 1) 0 (.slice q1 n1 n1) (by omega)).other (B := w.heap.size + 1 + 1) 1 (.slice q2 n2 n2) (by omega)).other (B := w.heap.size + 1 + 1) 2 (.slice q3 n3 n3) (by omega)).ext E2)
  replace b2 := hid ((((b2.out.set 0 (.slice q1 n1 n1)).set 1 (.slice q2 n2 n2)).set 2 (.slice q3 n3 n3)).ext E2)
  replace E := hid (EX2.out.trans E2)
  clear g0 l0 g1 f1 l1 g2 f2 l2 EX2 E2
  have g0 := b0.out.cells
  have l0 := b0.out.lt
  have g1 := b1.out.cells
  have f1 := b1.out.free
  have l1 := b1.out.lt
  have g2 := b2.out.cells
  have f2 := b2.out.free
  have l2 := b2.out.lt
  have EX3 := hid (E.out.setCell (p := ⟨w.heap.size + 1 + 1, 3, none⟩) (by show w.heap.size ≤ w.heap.size + 1 + 1; omega) (.slice q4 n4 n4))
  go_wp2_with fail
  refine (toWaiverSD_any p5 n5 c5 base x.waivers _ (s5.ext okWaiver EX3.out) m5).mono ?_
  rintro e w3 ⟨q5, rfl, t5, E3⟩
  replace t5 := hid (t5.low okWaiver (b' := w.heap.size + 3) (by have := z0.out; simp [World.setCell]; omega))
  have z3 := hid (show w.heap.size + 3 ≤ w3.heap.size from by have := z0.out; have := E3.le; simp [World.setCell] at this; omega)
  clear z0
  have z0 := z3
  clear z3
  replace t1 := hid ((t1.out.put CeR.ok (g := w.heap.size + 1 + 1) (by omega) 3 (.slice q4 n4 n4)).ext CeR.ok E3)
  replace t2 := hid ((t2.out.put (RwD.ok okEdit) (g := w.heap.size + 1 + 1) (by omega) 3 (.slice q4 n4 n4)).ext (RwD.ok okEdit) E3)
  replace t3 := hid ((t3.out.put (RwD.ok okEdit) (g := w.heap.size + 1 + 1) (by omega) 3 (.slice q4 n4 n4)).ext (RwD.ok okEdit) E3)
  replace t4 := hid ((t4.out.put okRule (g := w.heap.size + 1 + 1) (by omega) 3 (.slice q4 n4 n4)).ext okRule E3)
  replace b0 := hid ((b0.out.other (B := w.heap.size + 1 + 1) 3 (.slice q4 n4 n4) (by omega)).ext E3)
  replace b1 := hid ((b1.out.other (B := w.heap.size + 1 + 1) 3 (.slice q4 n4 n4) (by omega)).ext E3)
  replace b2 := hid ((b2.out.set 3 (.slice q4 n4 n4)).ext E3)
  replace E := hid (EX3.out.trans E3)
  clear g0 l0 g1 f1 l1 g2 f2 l2 EX3 E3
  have g0 := b0.out.cells
  have l0 := b0.out.lt
  have g1 := b1.out.cells
  have f1 := b1.out.free
  have l1 := b1.out.lt
  have g2 := b2.out.cells
  have f2 := b2.out.free
  have l2 := b2.out.lt
  have EX4 := hid (E.out.setCell (p := ⟨w.heap.size + 1 + 1, 4, none⟩) (by show w.heap.size ≤ w.heap.size + 1 + 1; omega) (.slice q5 n5 n5))
  go_wp2_with fail
  refine (toNetlistD_any x.nl p6 p7 n6 c6 n7 c7 base _ (s6.ext DvR.ok EX4.out) m6 (s7.ext okPort EX4.out) m7).mono ?_
  rintro e w4 ⟨q6, q7, rfl, t6, t7, E4⟩
  replace t6 := hid (t6.low DvR.ok (b' := w.heap.size + 3) (by have := z0.out; simp [World.setCell]; omega))
  replace t7 := hid (t7.low okPort (b' := w.heap.size + 3) (by have := z0.out; simp [World.setCell]; omega))
  have z4 := hid (show w.heap.size + 3 ≤ w4.heap.size from by have := z0.out; have := E4.le; simp [World.setCell] at this; omega)
  clear z0
  have z0 := z4
  clear z4
  replace t1 := hid ((t1.out.put CeR.ok (g := w.heap.size + 1 + 1) (by omega) 4 (.slice q5 n5 n5)).ext CeR.ok E4)
  replace t2 := hid ((t2.out.put (RwD.ok okEdit) (g := w.heap.size + 1 + 1) (by omega) 4 (.slice q5 n5 n5)).ext (RwD.ok okEdit) E4)
  replace t3 := hid ((t3.out.put (RwD.ok okEdit) (g := w.heap.size + 1 + 1) (by omega) 4 (.slice q5 n5 n5)).ext (RwD.ok okEdit) E4)
  replace t4 := hid ((t4.out.put okRule (g := w.heap.size + 1 + 1) (by omega) 4 (.slice q5 n5 n5)).ext okRule E4)
  replace t5 := hid ((t5.out.put okWaiver (g := w.heap.size + 1 + 1) (by omega) 4 (.slice q5 n5 n5)).ext okWaiver E4)
  replace b0 := hid ((b0.out.other (B := w.heap.size + 1 + 1) 4 (.slice q5 n5 n5) (by omega)).ext E4)
  replace b1 := hid ((b1.out.other (B := w.heap.size + 1 + 1) 4 (.slice q5 n5 n5) (by omega)).ext E4)
  replace b2 := hid ((b2.out.set 4 (.slice q5 n5 n5)).ext E4)
  replace E := hid (EX4.out.trans E4)
  clear g0 l0 g1 f1 l1 g2 f2 l2 EX4 E4
  have g0 := b0.out.cells
  have l0 := b0.out.lt
  have g1 := b1.out.cells
  have f1 := b1.out.free
  have l1 := b1.out.lt
  have g2 := b2.out.cells
  have f2 := b2.out.free
  have l2 := b2.out.lt
  go_wp2_with fail
  have kB := (((((((((((b1.out.other (B := w.heap.size + 1 + 1) 5 (.int .i64 x.nl.nets) (by omega)).other (B := w.heap.size + 1 + 1) 6 (.slice q6 n6 n6) (by omega)).other (B := w.heap.size + 1 + 1) 7 (.slice q7 n7 n7) (by omega)).set 0 (.slice q1 n1 n1)).set 1 (.slice q2 n2 n2)).set 2 (.slice q3 n3 n3)).set 3 (.slice q4 n4 n4)).set 4 (.slice q5 n5 n5)).set 5 (.int .i64 x.nl.nets)).set 6 (.slice q6 n6 n6)).set 7 (.slice q7 n7 n7)).cells
  have hE := (((((((((((E.out.setCell (p := ⟨w.heap.size + 1 + 1, 5, none⟩) (by show w.heap.size ≤ w.heap.size + 1 + 1; omega) (.int .i64 x.nl.nets)).setCell (p := ⟨w.heap.size + 1 + 1, 6, none⟩) (by show w.heap.size ≤ w.heap.size + 1 + 1; omega) (.slice q6 n6 n6)).setCell (p := ⟨w.heap.size + 1 + 1, 7, none⟩) (by show w.heap.size ≤ w.heap.size + 1 + 1; omega) (.slice q7 n7 n7)).setCell (p := ⟨w.heap.size + 1, 0, none⟩) (by show w.heap.size ≤ w.heap.size + 1; omega) (.slice q1 n1 n1)).setCell (p := ⟨w.heap.size + 1, 1, none⟩) (by show w.heap.size ≤ w.heap.size + 1; omega) (.slice q2 n2 n2)).setCell (p := ⟨w.heap.size + 1, 2, none⟩) (by show w.heap.size ≤ w.heap.size + 1; omega) (.slice q3 n3 n3)).setCell (p := ⟨w.heap.size + 1, 3, none⟩) (by show w.heap.size ≤ w.heap.size + 1; omega) (.slice q4 n4 n4)).setCell (p := ⟨w.heap.size + 1, 4, none⟩) (by show w.heap.size ≤ w.heap.size + 1; omega) (.slice q5 n5 n5)).setCell (p := ⟨w.heap.size + 1, 5, none⟩) (by show w.heap.size ≤ w.heap.size + 1; omega) (.int .i64 x.nl.nets)).setCell (p := ⟨w.heap.size + 1, 6, none⟩) (by show w.heap.size ≤ w.heap.size + 1; omega) (.slice q6 n6 n6)).setCell (p := ⟨w.heap.size + 1, 7, none⟩) (by show w.heap.size ≤ w.heap.size + 1; omega) (.slice q7 n7 n7))
  refine bodyPost_ret (v := .agg #[.slice q1 n1 n1, .slice q2 n2 n2, .slice q3 n3 n3, .slice q4 n4 n4, .slice q5 n5 n5, .int .i64 x.nl.nets, .slice q6 n6 n6, .slice q7 n7 n7]) (by simp [results, Tryz.results6, go_sem, kB]) rfl ⟨q1, q2, q3, q4, q5, q6, q7, rfl, (((((((((((t1.out.put CeR.ok (g := w.heap.size + 1 + 1) (by omega) 5 (.int .i64 x.nl.nets)).put CeR.ok (g := w.heap.size + 1 + 1) (by omega) 6 (.slice q6 n6 n6)).put CeR.ok (g := w.heap.size + 1 + 1) (by omega) 7 (.slice q7 n7 n7)).put CeR.ok (g := w.heap.size + 1) (by omega) 0 (.slice q1 n1 n1)).put CeR.ok (g := w.heap.size + 1) (by omega) 1 (.slice q2 n2 n2)).put CeR.ok (g := w.heap.size + 1) (by omega) 2 (.slice q3 n3 n3)).put CeR.ok (g := w.heap.size + 1) (by omega) 3 (.slice q4 n4 n4)).put CeR.ok (g := w.heap.size + 1) (by omega) 4 (.slice q5 n5 n5)).put CeR.ok (g := w.heap.size + 1) (by omega) 5 (.int .i64 x.nl.nets)).put CeR.ok (g := w.heap.size + 1) (by omega) 6 (.slice q6 n6 n6)).put CeR.ok (g := w.heap.size + 1) (by omega) 7 (.slice q7 n7 n7)).low CeR.ok (by omega), (((((((((((t2.out.put (RwD.ok okEdit) (g := w.heap.size + 1 + 1) (by omega) 5 (.int .i64 x.nl.nets)).put (RwD.ok okEdit) (g := w.heap.size + 1 + 1) (by omega) 6 (.slice q6 n6 n6)).put (RwD.ok okEdit) (g := w.heap.size + 1 + 1) (by omega) 7 (.slice q7 n7 n7)).put (RwD.ok okEdit) (g := w.heap.size + 1) (by omega) 0 (.slice q1 n1 n1)).put (RwD.ok okEdit) (g := w.heap.size + 1) (by omega) 1 (.slice q2 n2 n2)).put (RwD.ok okEdit) (g := w.heap.size + 1) (by omega) 2 (.slice q3 n3 n3)).put (RwD.ok okEdit) (g := w.heap.size + 1) (by omega) 3 (.slice q4 n4 n4)).put (RwD.ok okEdit) (g := w.heap.size + 1) (by omega) 4 (.slice q5 n5 n5)).put (RwD.ok okEdit) (g := w.heap.size + 1) (by omega) 5 (.int .i64 x.nl.nets)).put (RwD.ok okEdit) (g := w.heap.size + 1) (by omega) 6 (.slice q6 n6 n6)).put (RwD.ok okEdit) (g := w.heap.size + 1) (by omega) 7 (.slice q7 n7 n7)).low (RwD.ok okEdit) (by omega), (((((((((((t3.out.put (RwD.ok okEdit) (g := w.heap.size + 1 + 1) (by omega) 5 (.int .i64 x.nl.nets)).put (RwD.ok okEdit) (g := w.heap.size + 1 + 1) (by omega) 6 (.slice q6 n6 n6)).put (RwD.ok okEdit) (g := w.heap.size + 1 + 1) (by omega) 7 (.slice q7 n7 n7)).put (RwD.ok okEdit) (g := w.heap.size + 1) (by omega) 0 (.slice q1 n1 n1)).put (RwD.ok okEdit) (g := w.heap.size + 1) (by omega) 1 (.slice q2 n2 n2)).put (RwD.ok okEdit) (g := w.heap.size + 1) (by omega) 2 (.slice q3 n3 n3)).put (RwD.ok okEdit) (g := w.heap.size + 1) (by omega) 3 (.slice q4 n4 n4)).put (RwD.ok okEdit) (g := w.heap.size + 1) (by omega) 4 (.slice q5 n5 n5)).put (RwD.ok okEdit) (g := w.heap.size + 1) (by omega) 5 (.int .i64 x.nl.nets)).put (RwD.ok okEdit) (g := w.heap.size + 1) (by omega) 6 (.slice q6 n6 n6)).put (RwD.ok okEdit) (g := w.heap.size + 1) (by omega) 7 (.slice q7 n7 n7)).low (RwD.ok okEdit) (by omega), (((((((((((t4.out.put okRule (g := w.heap.size + 1 + 1) (by omega) 5 (.int .i64 x.nl.nets)).put okRule (g := w.heap.size + 1 + 1) (by omega) 6 (.slice q6 n6 n6)).put okRule (g := w.heap.size + 1 + 1) (by omega) 7 (.slice q7 n7 n7)).put okRule (g := w.heap.size + 1) (by omega) 0 (.slice q1 n1 n1)).put okRule (g := w.heap.size + 1) (by omega) 1 (.slice q2 n2 n2)).put okRule (g := w.heap.size + 1) (by omega) 2 (.slice q3 n3 n3)).put okRule (g := w.heap.size + 1) (by omega) 3 (.slice q4 n4 n4)).put okRule (g := w.heap.size + 1) (by omega) 4 (.slice q5 n5 n5)).put okRule (g := w.heap.size + 1) (by omega) 5 (.int .i64 x.nl.nets)).put okRule (g := w.heap.size + 1) (by omega) 6 (.slice q6 n6 n6)).put okRule (g := w.heap.size + 1) (by omega) 7 (.slice q7 n7 n7)).low okRule (by omega), (((((((((((t5.out.put okWaiver (g := w.heap.size + 1 + 1) (by omega) 5 (.int .i64 x.nl.nets)).put okWaiver (g := w.heap.size + 1 + 1) (by omega) 6 (.slice q6 n6 n6)).put okWaiver (g := w.heap.size + 1 + 1) (by omega) 7 (.slice q7 n7 n7)).put okWaiver (g := w.heap.size + 1) (by omega) 0 (.slice q1 n1 n1)).put okWaiver (g := w.heap.size + 1) (by omega) 1 (.slice q2 n2 n2)).put okWaiver (g := w.heap.size + 1) (by omega) 2 (.slice q3 n3 n3)).put okWaiver (g := w.heap.size + 1) (by omega) 3 (.slice q4 n4 n4)).put okWaiver (g := w.heap.size + 1) (by omega) 4 (.slice q5 n5 n5)).put okWaiver (g := w.heap.size + 1) (by omega) 5 (.int .i64 x.nl.nets)).put okWaiver (g := w.heap.size + 1) (by omega) 6 (.slice q6 n6 n6)).put okWaiver (g := w.heap.size + 1) (by omega) 7 (.slice q7 n7 n7)).low okWaiver (by omega), (((((((((((t6.out.put DvR.ok (g := w.heap.size + 1 + 1) (by omega) 5 (.int .i64 x.nl.nets)).put DvR.ok (g := w.heap.size + 1 + 1) (by omega) 6 (.slice q6 n6 n6)).put DvR.ok (g := w.heap.size + 1 + 1) (by omega) 7 (.slice q7 n7 n7)).put DvR.ok (g := w.heap.size + 1) (by omega) 0 (.slice q1 n1 n1)).put DvR.ok (g := w.heap.size + 1) (by omega) 1 (.slice q2 n2 n2)).put DvR.ok (g := w.heap.size + 1) (by omega) 2 (.slice q3 n3 n3)).put DvR.ok (g := w.heap.size + 1) (by omega) 3 (.slice q4 n4 n4)).put DvR.ok (g := w.heap.size + 1) (by omega) 4 (.slice q5 n5 n5)).put DvR.ok (g := w.heap.size + 1) (by omega) 5 (.int .i64 x.nl.nets)).put DvR.ok (g := w.heap.size + 1) (by omega) 6 (.slice q6 n6 n6)).put DvR.ok (g := w.heap.size + 1) (by omega) 7 (.slice q7 n7 n7)).low DvR.ok (by omega), (((((((((((t7.out.put okPort (g := w.heap.size + 1 + 1) (by omega) 5 (.int .i64 x.nl.nets)).put okPort (g := w.heap.size + 1 + 1) (by omega) 6 (.slice q6 n6 n6)).put okPort (g := w.heap.size + 1 + 1) (by omega) 7 (.slice q7 n7 n7)).put okPort (g := w.heap.size + 1) (by omega) 0 (.slice q1 n1 n1)).put okPort (g := w.heap.size + 1) (by omega) 1 (.slice q2 n2 n2)).put okPort (g := w.heap.size + 1) (by omega) 2 (.slice q3 n3 n3)).put okPort (g := w.heap.size + 1) (by omega) 3 (.slice q4 n4 n4)).put okPort (g := w.heap.size + 1) (by omega) 4 (.slice q5 n5 n5)).put okPort (g := w.heap.size + 1) (by omega) 5 (.int .i64 x.nl.nets)).put okPort (g := w.heap.size + 1) (by omega) 6 (.slice q6 n6 n6)).put okPort (g := w.heap.size + 1) (by omega) 7 (.slice q7 n7 n7)).low okPort (by omega), hE⟩
set_option maxRecDepth 100000 in
set_option maxHeartbeats 4000000 in
theorem eqSessionD_any (x : SeD) (p1 q1 p2 q2 p3 q3 p4 q4 p5 q5 p6 q6 p7 q7 : Option Addr) (n1 c1 d1 n2 c2 d2 n3 c3 d3 n4 c4 d4 n5 c5 d5 n6 c6 d6 n7 c7 d7 b1 b2 : Nat) (w : World) (s1 : SlD CeR 4 b1 w p1 n1 x.ed.cells) (t1 : SlD CeR 4 b2 w q1 n1 x.ed.cells) (m1 : n1 ≤ 1048576 ∧ ∀ y ∈ x.ed.cells, y.shs.length ≤ 1048576 ∧ y.lbs.length ≤ 1048576 ∧ y.ins.length ≤ 1048576) (s2 : SlD (RwD (Fl encEd) 21) 1 b1 w p2 n2 x.ed.undos) (t2 : SlD (RwD (Fl encEd) 21) 1 b2 w q2 n2 x.ed.undos) (m2 : n2 ≤ 1048576 ∧ ∀ y ∈ x.ed.undos, y.length ≤ 1048576) (s3 : SlD (RwD (Fl encEd) 21) 1 b1 w p3 n3 x.ed.redos) (t3 : SlD (RwD (Fl encEd) 21) 1 b2 w q3 n3 x.ed.redos) (m3 : n3 ≤ 1048576 ∧ ∀ y ∈ x.ed.redos, y.length ≤ 1048576) (s4 : SlD (Fl encRu) 5 b1 w p4 n4 x.rules) (t4 : SlD (Fl encRu) 5 b2 w q4 n4 x.rules) (m4 : n4 ≤ 1048576) (s5 : SlD (Fl encWv) 2 b1 w p5 n5 x.waivers) (t5 : SlD (Fl encWv) 2 b2 w q5 n5 x.waivers) (m5 : n5 ≤ 1048576) (s6 : SlD DvR 4 b1 w p6 n6 x.nl.devs) (t6 : SlD DvR 4 b2 w q6 n6 x.nl.devs) (m6 : n6 ≤ 1048576 ∧ ∀ y ∈ x.nl.devs, y.pins.length ≤ 1048576) (s7 : SlD (Fl encPo) 2 b1 w p7 n7 x.nl.ports) (t7 : SlD (Fl encPo) 2 b2 w q7 n7 x.nl.ports) (m7 : n7 ≤ 1048576) :
    Calls Tryz.prog 8 #[.agg #[.slice p1 n1 c1, .slice p2 n2 c2, .slice p3 n3 c3, .slice p4 n4 c4, .slice p5 n5 c5, .int .i64 x.nl.nets, .slice p6 n6 c6, .slice p7 n7 c7], .agg #[.slice q1 n1 d1, .slice q2 n2 d2, .slice q3 n3 d3, .slice q4 n4 d4, .slice q5 n5 d5, .int .i64 x.nl.nets, .slice q6 n6 d6, .slice q7 n7 d7]] w fun e w' => e = .returned (.bool true) ∧ Ext w w' := by
  go_enter Tryz.func8, Tryz.ntmps8
  go_upto_region 1 with (fail)
  generalize hW : World.alloc (World.alloc _ _) _ = W0
  obtain ⟨E0, z0, a0, a1⟩ := boxes2 hW
  clear hW z0
  replace a0 := hid (show Blk W0 w.heap.size [_, _, _, _, _, _, _, _] _ from a0)
  replace a1 := hid (show Blk W0 (w.heap.size + 1) [_, _, _, _, _, _, _, _] _ from a1)
  have g0 := a0.out.cells
  have l0 := a0.out.lt
  have g1 := a1.out.cells
  have l1 := a1.out.lt
  have E := Ext.refl W0
  go_wp2_with fail
  refine (eqEditorD_any x.ed p1 q1 p2 q2 p3 q3 n1 c1 d1 n2 c2 d2 n3 c3 d3 b1 b2 _ (s1.ext CeR.ok (E0.trans E)) (t1.ext CeR.ok (E0.trans E)) m1 (s2.ext (RwD.ok okEdit) (E0.trans E)) (t2.ext (RwD.ok okEdit) (E0.trans E)) m2 (s3.ext (RwD.ok okEdit) (E0.trans E)) (t3.ext (RwD.ok okEdit) (E0.trans E)) m3).mono ?_
  rintro e w1 ⟨rfl, E1⟩
  replace E := E.trans E1
  clear g0 l0 g1 l1 E1
  have g0 := (a0.out.ext E).cells
  have l0 := (a0.out.ext E).lt
  have g1 := (a1.out.ext E).cells
  have l1 := (a1.out.ext E).lt
  go_wp2_with fail
  refine (eqDeckD_any x.rules p4 q4 n4 c4 d4 b1 b2 _ (s4.ext okRule (E0.trans E)) (t4.ext okRule (E0.trans E)) m4).mono ?_
  rintro e w2 ⟨rfl, E2⟩
  replace E := E.trans E2
  clear g0 l0 g1 l1 E2
  have g0 := (a0.out.ext E).cells
  have l0 := (a0.out.ext E).lt
  have g1 := (a1.out.ext E).cells
  have l1 := (a1.out.ext E).lt
  go_wp2_with fail
  refine (eqWaiverSD_any p5 q5 n5 c5 d5 b1 b2 x.waivers _ (s5.ext okWaiver (E0.trans E)) (t5.ext okWaiver (E0.trans E)) m5).mono ?_
  rintro e w3 ⟨rfl, E3⟩
  replace E := E.trans E3
  clear g0 l0 g1 l1 E3
  have g0 := (a0.out.ext E).cells
  have l0 := (a0.out.ext E).lt
  have g1 := (a1.out.ext E).cells
  have l1 := (a1.out.ext E).lt
  go_wp2_with fail
  refine (eqNetlistD_any x.nl p6 q6 p7 q7 n6 c6 d6 n7 c7 d7 b1 b2 _ (s6.ext DvR.ok (E0.trans E)) (t6.ext DvR.ok (E0.trans E)) m6 (s7.ext okPort (E0.trans E)) (t7.ext okPort (E0.trans E)) m7).mono ?_
  rintro e w4 ⟨rfl, E4⟩
  replace E := E.trans E4
  clear g0 l0 g1 l1 E4
  have g0 := (a0.out.ext E).cells
  have l0 := (a0.out.ext E).lt
  have g1 := (a1.out.ext E).cells
  have l1 := (a1.out.ext E).lt
  go_wp2_with fail
  go_ret
  exact ⟨rfl, E0.trans E⟩
end Go.Proofs.YtajlkanocngdfaaGreat
