/- Contracts of toX and eqX at libraries, editors, decks, netlists. Condition: at most 2^20 elements each. -/
import Derived.Test.YtajlkanocngdfaaGreatDds
namespace Go.Proofs.YtajlkanocngdfaaGreat
open Go.RowKit

structure NlD where
  nets : Int
  devs : List DvD
  ports : List PoD
structure EtD where
  cells : List CeD
  undos : List (List EdD)
  redos : List (List EdD)
theorem toCellSE_any (p : Option Addr) (n c base : Nat) (l : List CeD) (w : World) (h : SlD CeR 4 base w p n l) (m : n ≤ 1048576 ∧ ∀ y ∈ l, y.shs.length ≤ 1048576 ∧ y.lbs.length ≤ 1048576 ∧ y.ins.length ≤ 1048576) :
    Calls Tryz.prog 76 #[.slice p n c] w fun e w' => ∃ q, e = .returned (.slice q n n) ∧ SlD CeR 4 w.heap.size w' q n l ∧ Ext w w' := toCellSD_any p n c base l w h m.1 m.2
theorem eqCellSE_any (p q : Option Addr) (n c d b1 b2 : Nat) (l : List CeD) (w : World) (h1 : SlD CeR 4 b1 w p n l) (h2 : SlD CeR 4 b2 w q n l) (m : n ≤ 1048576 ∧ ∀ y ∈ l, y.shs.length ≤ 1048576 ∧ y.lbs.length ≤ 1048576 ∧ y.ins.length ≤ 1048576) :
    Calls Tryz.prog 94 #[.slice p n c, .slice q n d] w fun e w' => e = .returned (.bool true) ∧ Ext w w' := eqCellSD_any p q n c d b1 b2 l w h1 h2 m.1 m.2
theorem toDeviceSE_any (p : Option Addr) (n c base : Nat) (l : List DvD) (w : World) (h : SlD DvR 4 base w p n l) (m : n ≤ 1048576 ∧ ∀ y ∈ l, y.pins.length ≤ 1048576) :
    Calls Tryz.prog 47 #[.slice p n c] w fun e w' => ∃ q, e = .returned (.slice q n n) ∧ SlD DvR 4 w.heap.size w' q n l ∧ Ext w w' := toDeviceSD_any p n c base l w h m.1 m.2
theorem eqDeviceSE_any (p q : Option Addr) (n c d b1 b2 : Nat) (l : List DvD) (w : World) (h1 : SlD DvR 4 b1 w p n l) (h2 : SlD DvR 4 b2 w q n l) (m : n ≤ 1048576 ∧ ∀ y ∈ l, y.pins.length ≤ 1048576) :
    Calls Tryz.prog 63 #[.slice p n c, .slice q n d] w fun e w' => e = .returned (.bool true) ∧ Ext w w' := eqDeviceSD_any p q n c d b1 b2 l w h1 h2 m.1 m.2
theorem toEditSSE_any (p : Option Addr) (n c base : Nat) (l : List (List EdD)) (w : World) (h : SlD (RwD (Fl encEd) 21) 1 base w p n l) (m : n ≤ 1048576 ∧ ∀ y ∈ l, y.length ≤ 1048576) :
    Calls Tryz.prog 44 #[.slice p n c] w fun e w' => ∃ q, e = .returned (.slice q n n) ∧ SlD (RwD (Fl encEd) 21) 1 w.heap.size w' q n l ∧ Ext w w' := toEditSSD_any p n c base l w h m.1 m.2
theorem eqEditSSE_any (p q : Option Addr) (n c d b1 b2 : Nat) (l : List (List EdD)) (w : World) (h1 : SlD (RwD (Fl encEd) 21) 1 b1 w p n l) (h2 : SlD (RwD (Fl encEd) 21) 1 b2 w q n l) (m : n ≤ 1048576 ∧ ∀ y ∈ l, y.length ≤ 1048576) :
    Calls Tryz.prog 60 #[.slice p n c, .slice q n d] w fun e w' => e = .returned (.bool true) ∧ Ext w w' := eqEditSSD_any p q n c d b1 b2 l w h1 h2 m.1 m.2
set_option maxRecDepth 100000 in
set_option maxHeartbeats 4000000 in
theorem toLibraryD_any (x : (List CeD)) (p1 : Option Addr) (n1 c1 base : Nat) (w : World) (s1 : SlD CeR 4 base w p1 n1 x) (m1 : n1 ≤ 1048576 ∧ ∀ y ∈ x, y.shs.length ≤ 1048576 ∧ y.lbs.length ≤ 1048576 ∧ y.ins.length ≤ 1048576) :
    Calls Tryz.prog 43 #[.agg #[.slice p1 n1 c1]] w fun e w' => ∃ q1, e = .returned (.agg #[.slice q1 n1 n1]) ∧ SlD CeR 4 w.heap.size w' q1 n1 x ∧ Ext w w' := by
  go_enter Tryz.func43, Tryz.ntmps43
  go_upto_region 2 with (fail)
  generalize hW : World.alloc (World.alloc (World.alloc _ _) _) _ = W0
  obtain ⟨E0, z0, b0, b1, b2⟩ := boxes3 hW
  clear hW
  replace z0 := hid z0
  have b0 : Blk W0 w.heap.size [_] _ := b0
  have b1 : Blk W0 (w.heap.size + 1) [_] _ := b1
  have b2 : Blk W0 (w.heap.size + 1 + 1) [_] _ := b2
  have E := hid E0
  clear E0
  replace b0 := hid b0
  replace b1 := hid b1
  replace b2 := hid b2
  have g0 := b0.out.cells
  have l0 := b0.out.lt
  have g1 := b1.out.cells
  have f1 := b1.out.free
  have l1 := b1.out.lt
  have g2 := b2.out.cells
  have f2 := b2.out.free
  have l2 := b2.out.lt
  have EX1 := hid E.out
  go_wp2_with fail
  refine (toCellSE_any p1 n1 c1 base x _ (s1.ext CeR.ok EX1.out) m1).mono ?_
  rintro e w1 ⟨q1, rfl, t1, E1⟩
  replace t1 := hid (t1.low CeR.ok (b' := w.heap.size + 3) (by have := z0.out; omega))
  have z1 := hid (show w.heap.size + 3 ≤ w1.heap.size from by have := z0.out; have := E1.le; omega)
  clear z0
  have z0 := z1
  clear z1
  replace b0 := hid (b0.out.ext E1)
  replace b1 := hid (b1.out.ext E1)
  replace b2 := hid (b2.out.ext E1)
  replace E := hid (EX1.out.trans E1)
  clear g0 l0 g1 f1 l1 g2 f2 l2 EX1 E1
  have g0 := b0.out.cells
  have l0 := b0.out.lt
  have g1 := b1.out.cells
  have f1 := b1.out.free
  have l1 := b1.out.lt
  have g2 := b2.out.cells
  have f2 := b2.out.free
  have l2 := b2.out.lt
  go_wp2_with fail
  have kB := ((b1.out.other (B := w.heap.size + 1 + 1) 0 (.slice q1 n1 n1) (by omega)).set 0 (.slice q1 n1 n1)).cells
  have hE := ((E.out.setCell (p := ⟨w.heap.size + 1 + 1, 0, none⟩) (by show w.heap.size ≤ w.heap.size + 1 + 1; omega) (.slice q1 n1 n1)).setCell (p := ⟨w.heap.size + 1, 0, none⟩) (by show w.heap.size ≤ w.heap.size + 1; omega) (.slice q1 n1 n1))
  refine bodyPost_ret (v := .agg #[.slice q1 n1 n1]) (by simp [results, Tryz.results43, go_sem, kB]) rfl ⟨q1, rfl, ((t1.out.put CeR.ok (g := w.heap.size + 1 + 1) (by omega) 0 (.slice q1 n1 n1)).put CeR.ok (g := w.heap.size + 1) (by omega) 0 (.slice q1 n1 n1)).low CeR.ok (by omega), hE⟩
set_option maxRecDepth 100000 in
set_option maxHeartbeats 4000000 in
theorem eqLibraryD_any (x : (List CeD)) (p1 q1 : Option Addr) (n1 c1 d1 b1 b2 : Nat) (w : World) (s1 : SlD CeR 4 b1 w p1 n1 x) (t1 : SlD CeR 4 b2 w q1 n1 x) (m1 : n1 ≤ 1048576 ∧ ∀ y ∈ x, y.shs.length ≤ 1048576 ∧ y.lbs.length ≤ 1048576 ∧ y.ins.length ≤ 1048576) :
    Calls Tryz.prog 59 #[.agg #[.slice p1 n1 c1], .agg #[.slice q1 n1 d1]] w fun e w' => e = .returned (.bool true) ∧ Ext w w' := by
  go_enter Tryz.func59, Tryz.ntmps59
  go_upto_region 1 with (fail)
  generalize hW : World.alloc (World.alloc _ _) _ = W0
  obtain ⟨E0, z0, a0, a1⟩ := boxes2 hW
  clear hW z0
  replace a0 := hid (show Blk W0 w.heap.size [_] _ from a0)
  replace a1 := hid (show Blk W0 (w.heap.size + 1) [_] _ from a1)
  have g0 := a0.out.cells
  have l0 := a0.out.lt
  have g1 := a1.out.cells
  have l1 := a1.out.lt
  have E := Ext.refl W0
  go_wp2_with fail
  refine (eqCellSE_any p1 q1 n1 c1 d1 b1 b2 x _ (s1.ext CeR.ok (E0.trans E)) (t1.ext CeR.ok (E0.trans E)) m1).mono ?_
  rintro e w1 ⟨rfl, E1⟩
  replace E := E.trans E1
  clear g0 l0 g1 l1 E1
  have g0 := (a0.out.ext E).cells
  have l0 := (a0.out.ext E).lt
  have g1 := (a1.out.ext E).cells
  have l1 := (a1.out.ext E).lt
  go_wp2_with fail
  go_ret
  exact ⟨rfl, E0.trans E⟩
theorem toLibraryE_any (p : Option Addr) (n c base : Nat) (l : List CeD) (w : World) (h : SlD CeR 4 base w p n l) (m : n ≤ 1048576 ∧ ∀ y ∈ l, y.shs.length ≤ 1048576 ∧ y.lbs.length ≤ 1048576 ∧ y.ins.length ≤ 1048576) :
    Calls Tryz.prog 43 #[.agg #[.slice p n c]] w fun e w' => ∃ q, e = .returned (.agg #[.slice q n n]) ∧ SlD CeR 4 w.heap.size w' q n l ∧ Ext w w' := toLibraryD_any l p n c base w h m
theorem eqLibraryE_any (p q : Option Addr) (n c d b1 b2 : Nat) (l : List CeD) (w : World) (h1 : SlD CeR 4 b1 w p n l) (h2 : SlD CeR 4 b2 w q n l) (m : n ≤ 1048576 ∧ ∀ y ∈ l, y.shs.length ≤ 1048576 ∧ y.lbs.length ≤ 1048576 ∧ y.ins.length ≤ 1048576) :
    Calls Tryz.prog 59 #[.agg #[.slice p n c], .agg #[.slice q n d]] w fun e w' => e = .returned (.bool true) ∧ Ext w w' := eqLibraryD_any l p q n c d b1 b2 w h1 h2 m
set_option maxRecDepth 100000 in
set_option maxHeartbeats 4000000 in
theorem toDeckD_any (x : (List RuD)) (p1 : Option Addr) (n1 c1 base : Nat) (w : World) (s1 : SlD (Fl encRu) 5 base w p1 n1 x) (m1 : n1 ≤ 1048576) :
    Calls Tryz.prog 18 #[.agg #[.slice p1 n1 c1]] w fun e w' => ∃ q1, e = .returned (.agg #[.slice q1 n1 n1]) ∧ SlD (Fl encRu) 5 w.heap.size w' q1 n1 x ∧ Ext w w' := by
  go_enter Tryz.func18, Tryz.ntmps18
  go_upto_region 2 with (fail)
  generalize hW : World.alloc (World.alloc (World.alloc _ _) _) _ = W0
  obtain ⟨E0, z0, b0, b1, b2⟩ := boxes3 hW
  clear hW
  replace z0 := hid z0
  have b0 : Blk W0 w.heap.size [_] _ := b0
  have b1 : Blk W0 (w.heap.size + 1) [_] _ := b1
  have b2 : Blk W0 (w.heap.size + 1 + 1) [_] _ := b2
  have E := hid E0
  clear E0
  replace b0 := hid b0
  replace b1 := hid b1
  replace b2 := hid b2
  have g0 := b0.out.cells
  have l0 := b0.out.lt
  have g1 := b1.out.cells
  have f1 := b1.out.free
  have l1 := b1.out.lt
  have g2 := b2.out.cells
  have f2 := b2.out.free
  have l2 := b2.out.lt
  have EX1 := hid E.out
  go_wp2_with fail
  refine (toRuleSD_any p1 n1 c1 base x _ (s1.ext okRule EX1.out) m1).mono ?_
  rintro e w1 ⟨q1, rfl, t1, E1⟩
  replace t1 := hid (t1.low okRule (b' := w.heap.size + 3) (by have := z0.out; omega))
  have z1 := hid (show w.heap.size + 3 ≤ w1.heap.size from by have := z0.out; have := E1.le; omega)
  clear z0
  have z0 := z1
  clear z1
  replace b0 := hid (b0.out.ext E1)
  replace b1 := hid (b1.out.ext E1)
  replace b2 := hid (b2.out.ext E1)
  replace E := hid (EX1.out.trans E1)
  clear g0 l0 g1 f1 l1 g2 f2 l2 EX1 E1
  have g0 := b0.out.cells
  have l0 := b0.out.lt
  have g1 := b1.out.cells
  have f1 := b1.out.free
  have l1 := b1.out.lt
  have g2 := b2.out.cells
  have f2 := b2.out.free
  have l2 := b2.out.lt
  go_wp2_with fail
  have kB := ((b1.out.other (B := w.heap.size + 1 + 1) 0 (.slice q1 n1 n1) (by omega)).set 0 (.slice q1 n1 n1)).cells
  have hE := ((E.out.setCell (p := ⟨w.heap.size + 1 + 1, 0, none⟩) (by show w.heap.size ≤ w.heap.size + 1 + 1; omega) (.slice q1 n1 n1)).setCell (p := ⟨w.heap.size + 1, 0, none⟩) (by show w.heap.size ≤ w.heap.size + 1; omega) (.slice q1 n1 n1))
  refine bodyPost_ret (v := .agg #[.slice q1 n1 n1]) (by simp [results, Tryz.results18, go_sem, kB]) rfl ⟨q1, rfl, ((t1.out.put okRule (g := w.heap.size + 1 + 1) (by omega) 0 (.slice q1 n1 n1)).put okRule (g := w.heap.size + 1) (by omega) 0 (.slice q1 n1 n1)).low okRule (by omega), hE⟩
set_option maxRecDepth 100000 in
set_option maxHeartbeats 4000000 in
theorem eqDeckD_any (x : (List RuD)) (p1 q1 : Option Addr) (n1 c1 d1 b1 b2 : Nat) (w : World) (s1 : SlD (Fl encRu) 5 b1 w p1 n1 x) (t1 : SlD (Fl encRu) 5 b2 w q1 n1 x) (m1 : n1 ≤ 1048576) :
    Calls Tryz.prog 26 #[.agg #[.slice p1 n1 c1], .agg #[.slice q1 n1 d1]] w fun e w' => e = .returned (.bool true) ∧ Ext w w' := by
  go_enter Tryz.func26, Tryz.ntmps26
  go_upto_region 1 with (fail)
  generalize hW : World.alloc (World.alloc _ _) _ = W0
  obtain ⟨E0, z0, a0, a1⟩ := boxes2 hW
  clear hW z0
  replace a0 := hid (show Blk W0 w.heap.size [_] _ from a0)
  replace a1 := hid (show Blk W0 (w.heap.size + 1) [_] _ from a1)
  have g0 := a0.out.cells
  have l0 := a0.out.lt
  have g1 := a1.out.cells
  have l1 := a1.out.lt
  have E := Ext.refl W0
  go_wp2_with fail
  refine (eqRuleSD_any p1 q1 n1 c1 d1 b1 b2 x _ (s1.ext okRule (E0.trans E)) (t1.ext okRule (E0.trans E)) m1).mono ?_
  rintro e w1 ⟨rfl, E1⟩
  replace E := E.trans E1
  clear g0 l0 g1 l1 E1
  have g0 := (a0.out.ext E).cells
  have l0 := (a0.out.ext E).lt
  have g1 := (a1.out.ext E).cells
  have l1 := (a1.out.ext E).lt
  go_wp2_with fail
  go_ret
  exact ⟨rfl, E0.trans E⟩
set_option maxRecDepth 100000 in
set_option maxHeartbeats 4000000 in
theorem toNetlistD_any (x : NlD) (p1 p2 : Option Addr) (n1 c1 n2 c2 base : Nat) (w : World) (s1 : SlD DvR 4 base w p1 n1 x.devs) (m1 : n1 ≤ 1048576 ∧ ∀ y ∈ x.devs, y.pins.length ≤ 1048576) (s2 : SlD (Fl encPo) 2 base w p2 n2 x.ports) (m2 : n2 ≤ 1048576) :
    Calls Tryz.prog 20 #[.agg #[.int .i64 x.nets, .slice p1 n1 c1, .slice p2 n2 c2]] w fun e w' => ∃ q1 q2, e = .returned (.agg #[.int .i64 x.nets, .slice q1 n1 n1, .slice q2 n2 n2]) ∧ SlD DvR 4 w.heap.size w' q1 n1 x.devs ∧ SlD (Fl encPo) 2 w.heap.size w' q2 n2 x.ports ∧ Ext w w' := by
  go_enter Tryz.func20, Tryz.ntmps20
  go_upto_region 2 with (fail)
  generalize hW : World.alloc (World.alloc (World.alloc _ _) _) _ = W0
  obtain ⟨E0, z0, b0, b1, b2⟩ := boxes3 hW
  clear hW
  replace z0 := hid z0
  have b0 : Blk W0 w.heap.size [_, _, _] _ := b0
  have b1 : Blk W0 (w.heap.size + 1) [_, _, _] _ := b1
  have b2 : Blk W0 (w.heap.size + 1 + 1) [_, _, _] _ := b2
  have E := hid E0
  clear E0
  replace b0 := hid b0
  replace b1 := hid b1
  replace b2 := hid b2
  have g0 := b0.out.cells
  have l0 := b0.out.lt
  have g1 := b1.out.cells
  have f1 := b1.out.free
  have l1 := b1.out.lt
  have g2 := b2.out.cells
  have f2 := b2.out.free
  have l2 := b2.out.lt
  have EX1 := hid (E.out.setCell (p := ⟨w.heap.size + 1 + 1, 0, none⟩) (by show w.heap.size ≤ w.heap.size + 1 + 1; omega) (.int .i64 x.nets))
  go_wp2_with fail
  refine (toDeviceSE_any p1 n1 c1 base x.devs _ (s1.ext DvR.ok EX1.out) m1).mono ?_
  rintro e w1 ⟨q1, rfl, t1, E1⟩
  replace t1 := hid (t1.low DvR.ok (b' := w.heap.size + 3) (by have := z0.out; simp [World.setCell]; omega))
  have z1 := hid (show w.heap.size + 3 ≤ w1.heap.size from by have := z0.out; have := E1.le; simp [World.setCell] at this; omega)
  clear z0
  have z0 := z1
  clear z1
  replace b0 := hid ((b0.out.other (B := w.heap.size + 1 + 1) 0 (.int .i64 x.nets) (by omega)).ext E1)
  replace b1 := hid ((b1.out.other (B := w.heap.size + 1 + 1) 0 (.int .i64 x.nets) (by omega)).ext E1)
  replace b2 := hid ((b2.out.set 0 (.int .i64 x.nets)).ext E1)
  replace E := hid (EX1.out.trans E1)
  clear g0 l0 g1 f1 l1 g2 f2 l2 EX1 E1
  have g0 := b0.out.cells
  have l0 := b0.out.lt
  have g1 := b1.out.cells
  have f1 := b1.out.free
  have l1 := b1.out.lt
  have g2 := b2.out.cells
  have f2 := b2.out.free
  have l2 := b2.out.lt
  have EX2 := hid (E.out.setCell (p := ⟨w.heap.size + 1 + 1, 1, none⟩) (by show w.heap.size ≤ w.heap.size + 1 + 1; omega) (.slice q1 n1 n1))
  go_wp2_with fail
  refine (toPortSD_any p2 n2 c2 base x.ports _ (s2.ext okPort EX2.out) m2).mono ?_
  rintro e w2 ⟨q2, rfl, t2, E2⟩
  replace t2 := hid (t2.low okPort (b' := w.heap.size + 3) (by have := z0.out; simp [World.setCell]; omega))
  have z2 := hid (show w.heap.size + 3 ≤ w2.heap.size from by have := z0.out; have := E2.le; simp [World.setCell] at this; omega)
  clear z0
  have z0 := z2
  clear z2
  replace t1 := hid ((t1.out.put DvR.ok (g := w.heap.size + 1 + 1) (by omega) 1 (.slice q1 n1 n1)).ext DvR.ok E2)
  replace b0 := hid ((b0.out.other (B := w.heap.size + 1 + 1) 1 (.slice q1 n1 n1) (by omega)).ext E2)
  replace b1 := hid ((b1.out.other (B := w.heap.size + 1 + 1) 1 (.slice q1 n1 n1) (by omega)).ext E2)
  replace b2 := hid ((b2.out.set 1 (.slice q1 n1 n1)).ext E2)
  replace E := hid (EX2.out.trans E2)
  clear g0 l0 g1 f1 l1 g2 f2 l2 EX2 E2
  have g0 := b0.out.cells
  have l0 := b0.out.lt
  have g1 := b1.out.cells
  have f1 := b1.out.free
  have l1 := b1.out.lt
  have g2 := b2.out.cells
  have f2 := b2.out.free
  have l2 := b2.out.lt
  go_wp2_with fail
  have kB := ((((b1.out.other (B := w.heap.size + 1 + 1) 2 (.slice q2 n2 n2) (by omega)).set 0 (.int .i64 x.nets)).set 1 (.slice q1 n1 n1)).set 2 (.slice q2 n2 n2)).cells
  have hE := ((((E.out.setCell (p := ⟨w.heap.size + 1 + 1, 2, none⟩) (by show w.heap.size ≤ w.heap.size + 1 + 1; omega) (.slice q2 n2 n2)).setCell (p := ⟨w.heap.size + 1, 0, none⟩) (by show w.heap.size ≤ w.heap.size + 1; omega) (.int .i64 x.nets)).setCell (p := ⟨w.heap.size + 1, 1, none⟩) (by show w.heap.size ≤ w.heap.size + 1; omega) (.slice q1 n1 n1)).setCell (p := ⟨w.heap.size + 1, 2, none⟩) (by show w.heap.size ≤ w.heap.size + 1; omega) (.slice q2 n2 n2))
  refine bodyPost_ret (v := .agg #[.int .i64 x.nets, .slice q1 n1 n1, .slice q2 n2 n2]) (by simp [results, Tryz.results20, go_sem, kB]) rfl ⟨q1, q2, rfl, ((((t1.out.put DvR.ok (g := w.heap.size + 1 + 1) (by omega) 2 (.slice q2 n2 n2)).put DvR.ok (g := w.heap.size + 1) (by omega) 0 (.int .i64 x.nets)).put DvR.ok (g := w.heap.size + 1) (by omega) 1 (.slice q1 n1 n1)).put DvR.ok (g := w.heap.size + 1) (by omega) 2 (.slice q2 n2 n2)).low DvR.ok (by omega), ((((t2.out.put okPort (g := w.heap.size + 1 + 1) (by omega) 2 (.slice q2 n2 n2)).put okPort (g := w.heap.size + 1) (by omega) 0 (.int .i64 x.nets)).put okPort (g := w.heap.size + 1) (by omega) 1 (.slice q1 n1 n1)).put okPort (g := w.heap.size + 1) (by omega) 2 (.slice q2 n2 n2)).low okPort (by omega), hE⟩
set_option maxRecDepth 100000 in
set_option maxHeartbeats 4000000 in
theorem eqNetlistD_any (x : NlD) (p1 q1 p2 q2 : Option Addr) (n1 c1 d1 n2 c2 d2 b1 b2 : Nat) (w : World) (s1 : SlD DvR 4 b1 w p1 n1 x.devs) (t1 : SlD DvR 4 b2 w q1 n1 x.devs) (m1 : n1 ≤ 1048576 ∧ ∀ y ∈ x.devs, y.pins.length ≤ 1048576) (s2 : SlD (Fl encPo) 2 b1 w p2 n2 x.ports) (t2 : SlD (Fl encPo) 2 b2 w q2 n2 x.ports) (m2 : n2 ≤ 1048576) :
    Calls Tryz.prog 28 #[.agg #[.int .i64 x.nets, .slice p1 n1 c1, .slice p2 n2 c2], .agg #[.int .i64 x.nets, .slice q1 n1 d1, .slice q2 n2 d2]] w fun e w' => e = .returned (.bool true) ∧ Ext w w' := by
  go_enter Tryz.func28, Tryz.ntmps28
  go_upto_region 1 with (fail)
  generalize hW : World.alloc (World.alloc _ _) _ = W0
  obtain ⟨E0, z0, a0, a1⟩ := boxes2 hW
  clear hW z0
  replace a0 := hid (show Blk W0 w.heap.size [_, _, _] _ from a0)
  replace a1 := hid (show Blk W0 (w.heap.size + 1) [_, _, _] _ from a1)
  have g0 := a0.out.cells
  have l0 := a0.out.lt
  have g1 := a1.out.cells
  have l1 := a1.out.lt
  have E := Ext.refl W0
  go_wp2_with fail
  refine (eqDeviceSE_any p1 q1 n1 c1 d1 b1 b2 x.devs _ (s1.ext DvR.ok (E0.trans E)) (t1.ext DvR.ok (E0.trans E)) m1).mono ?_
  rintro e w1 ⟨rfl, E1⟩
  replace E := E.trans E1
  clear g0 l0 g1 l1 E1
  have g0 := (a0.out.ext E).cells
  have l0 := (a0.out.ext E).lt
  have g1 := (a1.out.ext E).cells
  have l1 := (a1.out.ext E).lt
  go_wp2_with fail
  refine (eqPortSD_any p2 q2 n2 c2 d2 b1 b2 x.ports _ (s2.ext okPort (E0.trans E)) (t2.ext okPort (E0.trans E)) m2).mono ?_
  rintro e w2 ⟨rfl, E2⟩
  replace E := E.trans E2
  clear g0 l0 g1 l1 E2
  have g0 := (a0.out.ext E).cells
  have l0 := (a0.out.ext E).lt
  have g1 := (a1.out.ext E).cells
  have l1 := (a1.out.ext E).lt
  go_wp2_with fail
  go_ret
  exact ⟨rfl, E0.trans E⟩
set_option maxRecDepth 100000 in
set_option maxHeartbeats 4000000 in
theorem toEditorD_any (x : EtD) (p1 p2 p3 : Option Addr) (n1 c1 n2 c2 n3 c3 base : Nat) (w : World) (s1 : SlD CeR 4 base w p1 n1 x.cells) (m1 : n1 ≤ 1048576 ∧ ∀ y ∈ x.cells, y.shs.length ≤ 1048576 ∧ y.lbs.length ≤ 1048576 ∧ y.ins.length ≤ 1048576) (s2 : SlD (RwD (Fl encEd) 21) 1 base w p2 n2 x.undos) (m2 : n2 ≤ 1048576 ∧ ∀ y ∈ x.undos, y.length ≤ 1048576) (s3 : SlD (RwD (Fl encEd) 21) 1 base w p3 n3 x.redos) (m3 : n3 ≤ 1048576 ∧ ∀ y ∈ x.redos, y.length ≤ 1048576) :
    Calls Tryz.prog 17 #[.agg #[.slice p1 n1 c1, .slice p2 n2 c2, .slice p3 n3 c3]] w fun e w' => ∃ q1 q2 q3, e = .returned (.agg #[.slice q1 n1 n1, .slice q2 n2 n2, .slice q3 n3 n3]) ∧ SlD CeR 4 w.heap.size w' q1 n1 x.cells ∧ SlD (RwD (Fl encEd) 21) 1 w.heap.size w' q2 n2 x.undos ∧ SlD (RwD (Fl encEd) 21) 1 w.heap.size w' q3 n3 x.redos ∧ Ext w w' := by
  go_enter Tryz.func17, Tryz.ntmps17
  go_upto_region 2 with (fail)
  generalize hW : World.alloc (World.alloc (World.alloc _ _) _) _ = W0
  obtain ⟨E0, z0, b0, b1, b2⟩ := boxes3 hW
  clear hW
  replace z0 := hid z0
  have b0 : Blk W0 w.heap.size [_, _, _] _ := b0
  have b1 : Blk W0 (w.heap.size + 1) [_, _, _] _ := b1
  have b2 : Blk W0 (w.heap.size + 1 + 1) [_, _, _] _ := b2
  have E := hid E0
  clear E0
  replace b0 := hid b0
  replace b1 := hid b1
  replace b2 := hid b2
  have g0 := b0.out.cells
  have l0 := b0.out.lt
  have g1 := b1.out.cells
  have f1 := b1.out.free
  have l1 := b1.out.lt
  have g2 := b2.out.cells
  have f2 := b2.out.free
  have l2 := b2.out.lt
  have EX1 := hid E.out
  go_wp2_with fail
  refine (toLibraryE_any p1 n1 c1 base x.cells _ (s1.ext CeR.ok EX1.out) m1).mono ?_
  rintro e w1 ⟨q1, rfl, t1, E1⟩
  replace t1 := hid (t1.low CeR.ok (b' := w.heap.size + 3) (by have := z0.out; omega))
  have z1 := hid (show w.heap.size + 3 ≤ w1.heap.size from by have := z0.out; have := E1.le; omega)
  clear z0
  have z0 := z1
  clear z1
  replace b0 := hid (b0.out.ext E1)
  replace b1 := hid (b1.out.ext E1)
  replace b2 := hid (b2.out.ext E1)
  replace E := hid (EX1.out.trans E1)
  clear g0 l0 g1 f1 l1 g2 f2 l2 EX1 E1
  have g0 := b0.out.cells
  have l0 := b0.out.lt
  have g1 := b1.out.cells
  have f1 := b1.out.free
  have l1 := b1.out.lt
  have g2 := b2.out.cells
  have f2 := b2.out.free
  have l2 := b2.out.lt
  have EX2 := hid (E.out.setCell (p := ⟨w.heap.size + 1 + 1, 0, none⟩) (by show w.heap.size ≤ w.heap.size + 1 + 1; omega) (.slice q1 n1 n1))
  go_wp2_with fail
  refine (toEditSSE_any p2 n2 c2 base x.undos _ (s2.ext (RwD.ok okEdit) EX2.out) m2).mono ?_
  rintro e w2 ⟨q2, rfl, t2, E2⟩
  replace t2 := hid (t2.low (RwD.ok okEdit) (b' := w.heap.size + 3) (by have := z0.out; simp [World.setCell]; omega))
  have z2 := hid (show w.heap.size + 3 ≤ w2.heap.size from by have := z0.out; have := E2.le; simp [World.setCell] at this; omega)
  clear z0
  have z0 := z2
  clear z2
  replace t1 := hid ((t1.out.put CeR.ok (g := w.heap.size + 1 + 1) (by omega) 0 (.slice q1 n1 n1)).ext CeR.ok E2)
  replace b0 := hid ((b0.out.other (B := w.heap.size + 1 + 1) 0 (.slice q1 n1 n1) (by omega)).ext E2)
  replace b1 := hid ((b1.out.other (B := w.heap.size + 1 + 1) 0 (.slice q1 n1 n1) (by omega)).ext E2)
  replace b2 := hid ((b2.out.set 0 (.slice q1 n1 n1)).ext E2)
  replace E := hid (EX2.out.trans E2)
  clear g0 l0 g1 f1 l1 g2 f2 l2 EX2 E2
  have g0 := b0.out.cells
  have l0 := b0.out.lt
  have g1 := b1.out.cells
  have f1 := b1.out.free
  have l1 := b1.out.lt
  have g2 := b2.out.cells
  have f2 := b2.out.free
  have l2 := b2.out.lt
  have EX3 := hid (E.out.setCell (p := ⟨w.heap.size + 1 + 1, 1, none⟩) (by show w.heap.size ≤ w.heap.size + 1 + 1; omega) (.slice q2 n2 n2))
  go_wp2_with fail
  refine (toEditSSE_any p3 n3 c3 base x.redos _ (s3.ext (RwD.ok okEdit) EX3.out) m3).mono ?_
  rintro e w3 ⟨q3, rfl, t3, E3⟩
  replace t3 := hid (t3.low (RwD.ok okEdit) (b' := w.heap.size + 3) (by have := z0.out; simp [World.setCell]; omega))
  have z3 := hid (show w.heap.size + 3 ≤ w3.heap.size from by have := z0.out; have := E3.le; simp [World.setCell] at this; omega)
  clear z0
  have z0 := z3
  clear z3
  replace t1 := hid ((t1.out.put CeR.ok (g := w.heap.size + 1 + 1) (by omega) 1 (.slice q2 n2 n2)).ext CeR.ok E3)
  replace t2 := hid ((t2.out.put (RwD.ok okEdit) (g := w.heap.size + 1 + 1) (by omega) 1 (.slice q2 n2 n2)).ext (RwD.ok okEdit) E3)
  replace b0 := hid ((b0.out.other (B := w.heap.size + 1 + 1) 1 (.slice q2 n2 n2) (by omega)).ext E3)
  replace b1 := hid ((b1.out.other (B := w.heap.size + 1 + 1) 1 (.slice q2 n2 n2) (by omega)).ext E3)
  replace b2 := hid ((b2.out.set 1 (.slice q2 n2 n2)).ext E3)
  replace E := hid (EX3.out.trans E3)
  clear g0 l0 g1 f1 l1 g2 f2 l2 EX3 E3
  have g0 := b0.out.cells
  have l0 := b0.out.lt
  have g1 := b1.out.cells
  have f1 := b1.out.free
  have l1 := b1.out.lt
  have g2 := b2.out.cells
  have f2 := b2.out.free
  have l2 := b2.out.lt
  go_wp2_with fail
  have kB := ((((b1.out.other (B := w.heap.size + 1 + 1) 2 (.slice q3 n3 n3) (by omega)).set 0 (.slice q1 n1 n1)).set 1 (.slice q2 n2 n2)).set 2 (.slice q3 n3 n3)).cells
  have hE := ((((E.out.setCell (p := ⟨w.heap.size + 1 + 1, 2, none⟩) (by show w.heap.size ≤ w.heap.size + 1 + 1; omega) (.slice q3 n3 n3)).setCell (p := ⟨w.heap.size + 1, 0, none⟩) (by show w.heap.size ≤ w.heap.size + 1; omega) (.slice q1 n1 n1)).setCell (p := ⟨w.heap.size + 1, 1, none⟩) (by show w.heap.size ≤ w.heap.size + 1; omega) (.slice q2 n2 n2)).setCell (p := ⟨w.heap.size + 1, 2, none⟩) (by show w.heap.size ≤ w.heap.size + 1; omega) (.slice q3 n3 n3))
  refine bodyPost_ret (v := .agg #[.slice q1 n1 n1, .slice q2 n2 n2, .slice q3 n3 n3]) (by simp [results, Tryz.results17, go_sem, kB]) rfl ⟨q1, q2, q3, rfl, ((((t1.out.put CeR.ok (g := w.heap.size + 1 + 1) (by omega) 2 (.slice q3 n3 n3)).put CeR.ok (g := w.heap.size + 1) (by omega) 0 (.slice q1 n1 n1)).put CeR.ok (g := w.heap.size + 1) (by omega) 1 (.slice q2 n2 n2)).put CeR.ok (g := w.heap.size + 1) (by omega) 2 (.slice q3 n3 n3)).low CeR.ok (by omega), ((((t2.out.put (RwD.ok okEdit) (g := w.heap.size + 1 + 1) (by omega) 2 (.slice q3 n3 n3)).put (RwD.ok okEdit) (g := w.heap.size + 1) (by omega) 0 (.slice q1 n1 n1)).put (RwD.ok okEdit) (g := w.heap.size + 1) (by omega) 1 (.slice q2 n2 n2)).put (RwD.ok okEdit) (g := w.heap.size + 1) (by omega) 2 (.slice q3 n3 n3)).low (RwD.ok okEdit) (by omega), ((((t3.out.put (RwD.ok okEdit) (g := w.heap.size + 1 + 1) (by omega) 2 (.slice q3 n3 n3)).put (RwD.ok okEdit) (g := w.heap.size + 1) (by omega) 0 (.slice q1 n1 n1)).put (RwD.ok okEdit) (g := w.heap.size + 1) (by omega) 1 (.slice q2 n2 n2)).put (RwD.ok okEdit) (g := w.heap.size + 1) (by omega) 2 (.slice q3 n3 n3)).low (RwD.ok okEdit) (by omega), hE⟩
set_option maxRecDepth 100000 in
set_option maxHeartbeats 4000000 in
theorem eqEditorD_any (x : EtD) (p1 q1 p2 q2 p3 q3 : Option Addr) (n1 c1 d1 n2 c2 d2 n3 c3 d3 b1 b2 : Nat) (w : World) (s1 : SlD CeR 4 b1 w p1 n1 x.cells) (t1 : SlD CeR 4 b2 w q1 n1 x.cells) (m1 : n1 ≤ 1048576 ∧ ∀ y ∈ x.cells, y.shs.length ≤ 1048576 ∧ y.lbs.length ≤ 1048576 ∧ y.ins.length ≤ 1048576) (s2 : SlD (RwD (Fl encEd) 21) 1 b1 w p2 n2 x.undos) (t2 : SlD (RwD (Fl encEd) 21) 1 b2 w q2 n2 x.undos) (m2 : n2 ≤ 1048576 ∧ ∀ y ∈ x.undos, y.length ≤ 1048576) (s3 : SlD (RwD (Fl encEd) 21) 1 b1 w p3 n3 x.redos) (t3 : SlD (RwD (Fl encEd) 21) 1 b2 w q3 n3 x.redos) (m3 : n3 ≤ 1048576 ∧ ∀ y ∈ x.redos, y.length ≤ 1048576) :
    Calls Tryz.prog 25 #[.agg #[.slice p1 n1 c1, .slice p2 n2 c2, .slice p3 n3 c3], .agg #[.slice q1 n1 d1, .slice q2 n2 d2, .slice q3 n3 d3]] w fun e w' => e = .returned (.bool true) ∧ Ext w w' := by
  go_enter Tryz.func25, Tryz.ntmps25
  go_upto_region 1 with (fail)
  generalize hW : World.alloc (World.alloc _ _) _ = W0
  obtain ⟨E0, z0, a0, a1⟩ := boxes2 hW
  clear hW z0
  replace a0 := hid (show Blk W0 w.heap.size [_, _, _] _ from a0)
  replace a1 := hid (show Blk W0 (w.heap.size + 1) [_, _, _] _ from a1)
  have g0 := a0.out.cells
  have l0 := a0.out.lt
  have g1 := a1.out.cells
  have l1 := a1.out.lt
  have E := Ext.refl W0
  go_wp2_with fail
  refine (eqLibraryE_any p1 q1 n1 c1 d1 b1 b2 x.cells _ (s1.ext CeR.ok (E0.trans E)) (t1.ext CeR.ok (E0.trans E)) m1).mono ?_
  rintro e w1 ⟨rfl, E1⟩
  replace E := E.trans E1
  clear g0 l0 g1 l1 E1
  have g0 := (a0.out.ext E).cells
  have l0 := (a0.out.ext E).lt
  have g1 := (a1.out.ext E).cells
  have l1 := (a1.out.ext E).lt
  go_wp2_with fail
  refine (eqEditSSE_any p2 q2 n2 c2 d2 b1 b2 x.undos _ (s2.ext (RwD.ok okEdit) (E0.trans E)) (t2.ext (RwD.ok okEdit) (E0.trans E)) m2).mono ?_
  rintro e w2 ⟨rfl, E2⟩
  replace E := E.trans E2
  clear g0 l0 g1 l1 E2
  have g0 := (a0.out.ext E).cells
  have l0 := (a0.out.ext E).lt
  have g1 := (a1.out.ext E).cells
  have l1 := (a1.out.ext E).lt
  go_wp2_with fail
  refine (eqEditSSE_any p3 q3 n3 c3 d3 b1 b2 x.redos _ (s3.ext (RwD.ok okEdit) (E0.trans E)) (t3.ext (RwD.ok okEdit) (E0.trans E)) m3).mono ?_
  rintro e w3 ⟨rfl, E3⟩
  replace E := E.trans E3
  clear g0 l0 g1 l1 E3
  have g0 := (a0.out.ext E).cells
  have l0 := (a0.out.ext E).lt
  have g1 := (a1.out.ext E).cells
  have l1 := (a1.out.ext E).lt
  go_wp2_with fail
  go_ret
  exact ⟨rfl, E0.trans E⟩
end Go.Proofs.YtajlkanocngdfaaGreat
