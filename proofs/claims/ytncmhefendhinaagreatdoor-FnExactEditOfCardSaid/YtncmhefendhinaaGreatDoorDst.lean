/- Contracts of toX and eqX at libraries, editors, decks, netlists. Condition: at most 2^20 elements each. -/
import Derived.Test.YtncmhefendhinaaGreatDoorDds
namespace Go.Proofs.YtncmhefendhinaaGreatDoor
open Go.RowKit

structure NlD where
  nets : Int
  devs : List DvD
  ports : List PoD
structure EtD where
  cells : List CeD
  undos : List (List EdD)
  redos : List (List EdD)
theorem toCellSE_any (p : Option Addr) (n c base : Nat) (l : List CeD) (w : World) (h : SlD CeR 4 base w p n l) (m : n ≤ 1048576 ∧ ∀ y ∈ l, y.shs.length ≤ 1048576 ∧ y.lbs.length ≤ 1048576 ∧ y.ins.length ≤ 1048576) :
    Calls Tryz.prog 14 #[.slice p n c] w fun e w' => ∃ q, e = .returned (.slice q n n) ∧ SlD CeR 4 w.heap.size w' q n l ∧ Ext w w' := toCellSD_any p n c base l w h m.1 m.2
theorem eqCellSE_any (p q : Option Addr) (n c d b1 b2 : Nat) (l : List CeD) (w : World) (h1 : SlD CeR 4 b1 w p n l) (h2 : SlD CeR 4 b2 w q n l) (m : n ≤ 1048576 ∧ ∀ y ∈ l, y.shs.length ≤ 1048576 ∧ y.lbs.length ≤ 1048576 ∧ y.ins.length ≤ 1048576) :
    Calls Tryz.prog 21 #[.slice p n c, .slice q n d] w fun e w' => e = .returned (.bool true) ∧ Ext w w' := eqCellSD_any p q n c d b1 b2 l w h1 h2 m.1 m.2
set_option maxRecDepth 100000 in
set_option maxHeartbeats 4000000 in
theorem toLibraryD_any (x : (List CeD)) (p1 : Option Addr) (n1 c1 base : Nat) (w : World) (s1 : SlD CeR 4 base w p1 n1 x) (m1 : n1 ≤ 1048576 ∧ ∀ y ∈ x, y.shs.length ≤ 1048576 ∧ y.lbs.length ≤ 1048576 ∧ y.ins.length ≤ 1048576) :
    Calls Tryz.prog 6 #[.agg #[.slice p1 n1 c1]] w fun e w' => ∃ q1, e = .returned (.agg #[.slice q1 n1 n1]) ∧ SlD CeR 4 w.heap.size w' q1 n1 x ∧ Ext w w' := by
  go_enter Tryz.func6, Tryz.ntmps6
  go_upto_region 2 with (fail)
  generalize hW : World.alloc (World.alloc (World.alloc _ _) _) _ = W0
  obtain ⟨E0, z0, b0, b1, b2⟩ := boxes3 hW
  clear hW
  replace z0 := hid z0
  have b0 : Blk W0 w.heap.size [_] _ := b0
  have b1 : Blk W0 (w.heap.size + 1) [_] _ := b1
  have b2 : Blk W0 (w.heap.size + 1 + 1) [_] _ := b2
  have E := hid E0
  clear E0
  replace b0 := hid b0
  replace b1 := hid b1
  replace b2 := hid b2
  have g0 := b0.out.cells
  have l0 := b0.out.lt
  have g1 := b1.out.cells
  have f1 := b1.out.free
  have l1 := b1.out.lt
  have g2 := b2.out.cells
  have f2 := b2.out.free
  have l2 := b2.out.lt
  have EX1 := hid E.out
  go_wp2_with fail
  refine (toCellSE_any p1 n1 c1 base x _ (s1.ext CeR.ok EX1.out) m1).mono ?_
  rintro e w1 ⟨q1, rfl, t1, E1⟩
  replace t1 := hid (t1.low CeR.ok (b' := w.heap.size + 3) (by have := z0.out; omega))
  have z1 := hid (show w.heap.size + 3 ≤ w1.heap.size from by have := z0.out; have := E1.le; omega)
  clear z0
  have z0 := z1
  clear z1
  replace b0 := hid (b0.out.ext E1)
  replace b1 := hid (b1.out.ext E1)
  replace b2 := hid (b2.out.ext E1)
  replace E := hid (EX1.out.trans E1)
  clear g0 l0 g1 f1 l1 g2 f2 l2 EX1 E1
  have g0 := b0.out.cells
  have l0 := b0.out.lt
  have g1 := b1.out.cells
  have f1 := b1.out.free
  have l1 := b1.out.lt
  have g2 := b2.out.cells
  have f2 := b2.out.free
  have l2 := b2.out.lt
  go_wp2_with fail
  have kB := ((b1.out.other (B := w.heap.size + 1 + 1) 0 (.slice q1 n1 n1) (by omega)).set 0 (.slice q1 n1 n1)).cells
  have hE := ((E.out.setCell (p := ⟨w.heap.size + 1 + 1, 0, none⟩) (by show w.heap.size ≤ w.heap.size + 1 + 1; omega) (.slice q1 n1 n1)).setCell (p := ⟨w.heap.size + 1, 0, none⟩) (by show w.heap.size ≤ w.heap.size + 1; omega) (.slice q1 n1 n1))
  refine bodyPost_ret (v := .agg #[.slice q1 n1 n1]) (by simp [results, Tryz.results6, go_sem, kB]) rfl ⟨q1, rfl, ((t1.out.put CeR.ok (g := w.heap.size + 1 + 1) (by omega) 0 (.slice q1 n1 n1)).put CeR.ok (g := w.heap.size + 1) (by omega) 0 (.slice q1 n1 n1)).low CeR.ok (by omega), hE⟩
set_option maxRecDepth 100000 in
set_option maxHeartbeats 4000000 in
theorem eqLibraryD_any (x : (List CeD)) (p1 q1 : Option Addr) (n1 c1 d1 b1 b2 : Nat) (w : World) (s1 : SlD CeR 4 b1 w p1 n1 x) (t1 : SlD CeR 4 b2 w q1 n1 x) (m1 : n1 ≤ 1048576 ∧ ∀ y ∈ x, y.shs.length ≤ 1048576 ∧ y.lbs.length ≤ 1048576 ∧ y.ins.length ≤ 1048576) :
    Calls Tryz.prog 9 #[.agg #[.slice p1 n1 c1], .agg #[.slice q1 n1 d1]] w fun e w' => e = .returned (.bool true) ∧ Ext w w' := by
  go_enter Tryz.func9, Tryz.ntmps9
  go_upto_region 1 with (fail)
  generalize hW : World.alloc (World.alloc _ _) _ = W0
  obtain ⟨E0, z0, a0, a1⟩ := boxes2 hW
  clear hW z0
  replace a0 := hid (show Blk W0 w.heap.size [_] _ from a0)
  replace a1 := hid (show Blk W0 (w.heap.size + 1) [_] _ from a1)
  have g0 := a0.out.cells
  have l0 := a0.out.lt
  have g1 := a1.out.cells
  have l1 := a1.out.lt
  have E := Ext.refl W0
  go_wp2_with fail
  refine (eqCellSE_any p1 q1 n1 c1 d1 b1 b2 x _ (s1.ext CeR.ok (E0.trans E)) (t1.ext CeR.ok (E0.trans E)) m1).mono ?_
  rintro e w1 ⟨rfl, E1⟩
  replace E := E.trans E1
  clear g0 l0 g1 l1 E1
  have g0 := (a0.out.ext E).cells
  have l0 := (a0.out.ext E).lt
  have g1 := (a1.out.ext E).cells
  have l1 := (a1.out.ext E).lt
  go_wp2_with fail
  go_ret
  exact ⟨rfl, E0.trans E⟩
theorem toLibraryE_any (p : Option Addr) (n c base : Nat) (l : List CeD) (w : World) (h : SlD CeR 4 base w p n l) (m : n ≤ 1048576 ∧ ∀ y ∈ l, y.shs.length ≤ 1048576 ∧ y.lbs.length ≤ 1048576 ∧ y.ins.length ≤ 1048576) :
    Calls Tryz.prog 6 #[.agg #[.slice p n c]] w fun e w' => ∃ q, e = .returned (.agg #[.slice q n n]) ∧ SlD CeR 4 w.heap.size w' q n l ∧ Ext w w' := toLibraryD_any l p n c base w h m
theorem eqLibraryE_any (p q : Option Addr) (n c d b1 b2 : Nat) (l : List CeD) (w : World) (h1 : SlD CeR 4 b1 w p n l) (h2 : SlD CeR 4 b2 w q n l) (m : n ≤ 1048576 ∧ ∀ y ∈ l, y.shs.length ≤ 1048576 ∧ y.lbs.length ≤ 1048576 ∧ y.ins.length ≤ 1048576) :
    Calls Tryz.prog 9 #[.agg #[.slice p n c], .agg #[.slice q n d]] w fun e w' => e = .returned (.bool true) ∧ Ext w w' := eqLibraryD_any l p q n c d b1 b2 w h1 h2 m
end Go.Proofs.YtncmhefendhinaaGreatDoor
