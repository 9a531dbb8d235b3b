/- Contracts of toX, eqX, szX at elements without inner slices. No condition but that a string's length fits. -/
import Derived.Test.YtncmhefendhinaaGreatDoorDtp
import Derived.Deep.Cut
import Derived.Laws.Rows
namespace Go.Proofs.YtncmhefendhinaaGreatDoor
open Go.RowKit

set_option maxRecDepth 100000 in
set_option maxHeartbeats 2000000 in
theorem toRectD_any (x : Q4) (w : World) :
    Calls Tryz.prog 96 #[.agg #[.int .i64 x.a, .int .i64 x.b, .int .i64 x.c, .int .i64 x.d]] w fun e w' => e = .returned (.agg #[.int .i64 x.a, .int .i64 x.b, .int .i64 x.c, .int .i64 x.d]) ∧ Ext w w' := by
  go_enter Tryz.func96, Tryz.ntmps96
  go_wp2
  refine bodyPost_ret (v := .agg #[.int .i64 x.a, .int .i64 x.b, .int .i64 x.c, .int .i64 x.d]) (by simp [results, Tryz.results96, go_sem]) rfl ⟨rfl, ?_⟩
  repeat (first | exact Ext.refl _ | refine Ext.alloc ?_ _)
set_option maxRecDepth 100000 in
set_option maxHeartbeats 2000000 in
theorem toPointD_any (x : Q2) (w : World) :
    Calls Tryz.prog 97 #[.agg #[.int .i64 x.a, .int .i64 x.b]] w fun e w' => e = .returned (.agg #[.int .i64 x.a, .int .i64 x.b]) ∧ Ext w w' := by
  go_enter Tryz.func97, Tryz.ntmps97
  go_wp2
  refine bodyPost_ret (v := .agg #[.int .i64 x.a, .int .i64 x.b]) (by simp [results, Tryz.results97, go_sem]) rfl ⟨rfl, ?_⟩
  repeat (first | exact Ext.refl _ | refine Ext.alloc ?_ _)
set_option maxRecDepth 100000 in
set_option maxHeartbeats 2000000 in
theorem toTransformD_any (x : Q3) (w : World) :
    Calls Tryz.prog 98 #[.agg #[.int .i64 x.a, .int .i64 x.b, .int .i64 x.c]] w fun e w' => e = .returned (.agg #[.int .i64 x.a, .int .i64 x.b, .int .i64 x.c]) ∧ Ext w w' := by
  go_enter Tryz.func98, Tryz.ntmps98
  go_wp2
  refine bodyPost_ret (v := .agg #[.int .i64 x.a, .int .i64 x.b, .int .i64 x.c]) (by simp [results, Tryz.results98, go_sem]) rfl ⟨rfl, ?_⟩
  repeat (first | exact Ext.refl _ | refine Ext.alloc ?_ _)
set_option maxRecDepth 100000 in
set_option maxHeartbeats 4000000 in
theorem toShapeD_any (x : ShD) (w : World) :
    Calls Tryz.prog 80 #[.agg #[.int .i64 x.a, .int .i64 x.box.a, .int .i64 x.box.b, .int .i64 x.box.c, .int .i64 x.box.d]] w fun e w' => e = .returned (.agg #[.int .i64 x.a, .int .i64 x.box.a, .int .i64 x.box.b, .int .i64 x.box.c, .int .i64 x.box.d]) ∧ Ext w w' := by
  go_enter Tryz.func80, Tryz.ntmps80
  go_upto_region 2 with (fail)
  generalize hW : World.alloc (World.alloc (World.alloc _ _) _) _ = W0
  obtain ⟨E0, z0, b0, b1, b2⟩ := boxes3 hW
  clear hW
  replace z0 := hid z0
  have b0 : Blk W0 w.heap.size [_, _, _, _, _] _ := b0
  have b1 : Blk W0 (w.heap.size + 1) [_, _, _, _, _] _ := b1
  have b2 : Blk W0 (w.heap.size + 1 + 1) [_, _, _, _, _] _ := b2
  have E := hid E0
  clear E0
  have g0 := b0.cells
  have l0 := b0.lt
  have g1 := b1.cells
  have f1 := b1.free
  have l1 := b1.lt
  have g2 := b2.cells
  have f2 := b2.free
  have l2 := b2.lt
  replace b0 := hid b0
  replace b1 := hid b1
  replace b2 := hid b2
  go_wp2_with fail
  refine (toRectD_any x.box _).mono ?_
  rintro e w1 ⟨rfl, E1⟩
  replace b0 := hid ((b0.out.other (B := w.heap.size + 1 + 1) 0 (.int .i64 x.a) (by omega)).ext E1)
  replace b1 := hid ((b1.out.other (B := w.heap.size + 1 + 1) 0 (.int .i64 x.a) (by omega)).ext E1)
  replace b2 := hid ((b2.out.set 0 (.int .i64 x.a)).ext E1)
  replace E := hid ((E.out.setCell (p := ⟨w.heap.size + 1 + 1, 0, none⟩) (by show w.heap.size ≤ w.heap.size + 1 + 1; omega) (.int .i64 x.a)).trans E1)
  clear g0 l0 g1 f1 l1 g2 f2 l2 E1
  have g0 := b0.out.cells
  have l0 := b0.out.lt
  have g1 := b1.out.cells
  have f1 := b1.out.free
  have l1 := b1.out.lt
  have g2 := b2.out.cells
  have f2 := b2.out.free
  have l2 := b2.out.lt
  go_wp2_with fail
  have kB := (((((((((b1.out.other (B := w.heap.size + 1 + 1) 1 (.int .i64 x.box.a) (by omega)).other (B := w.heap.size + 1 + 1) 2 (.int .i64 x.box.b) (by omega)).other (B := w.heap.size + 1 + 1) 3 (.int .i64 x.box.c) (by omega)).other (B := w.heap.size + 1 + 1) 4 (.int .i64 x.box.d) (by omega)).set 0 (.int .i64 x.a)).set 1 (.int .i64 x.box.a)).set 2 (.int .i64 x.box.b)).set 3 (.int .i64 x.box.c)).set 4 (.int .i64 x.box.d)).cells
  have hE := (((((((((E.out.setCell (p := ⟨w.heap.size + 1 + 1, 1, none⟩) (by show w.heap.size ≤ w.heap.size + 1 + 1; omega) (.int .i64 x.box.a)).setCell (p := ⟨w.heap.size + 1 + 1, 2, none⟩) (by show w.heap.size ≤ w.heap.size + 1 + 1; omega) (.int .i64 x.box.b)).setCell (p := ⟨w.heap.size + 1 + 1, 3, none⟩) (by show w.heap.size ≤ w.heap.size + 1 + 1; omega) (.int .i64 x.box.c)).setCell (p := ⟨w.heap.size + 1 + 1, 4, none⟩) (by show w.heap.size ≤ w.heap.size + 1 + 1; omega) (.int .i64 x.box.d)).setCell (p := ⟨w.heap.size + 1, 0, none⟩) (by show w.heap.size ≤ w.heap.size + 1; omega) (.int .i64 x.a)).setCell (p := ⟨w.heap.size + 1, 1, none⟩) (by show w.heap.size ≤ w.heap.size + 1; omega) (.int .i64 x.box.a)).setCell (p := ⟨w.heap.size + 1, 2, none⟩) (by show w.heap.size ≤ w.heap.size + 1; omega) (.int .i64 x.box.b)).setCell (p := ⟨w.heap.size + 1, 3, none⟩) (by show w.heap.size ≤ w.heap.size + 1; omega) (.int .i64 x.box.c)).setCell (p := ⟨w.heap.size + 1, 4, none⟩) (by show w.heap.size ≤ w.heap.size + 1; omega) (.int .i64 x.box.d))
  refine bodyPost_ret (v := .agg #[.int .i64 x.a, .int .i64 x.box.a, .int .i64 x.box.b, .int .i64 x.box.c, .int .i64 x.box.d]) (by simp [results, Tryz.results80, go_sem, kB]) rfl ⟨rfl, hE⟩
set_option maxRecDepth 100000 in
set_option maxHeartbeats 4000000 in
theorem toLabelD_any (x : LbD) (w : World) :
    Calls Tryz.prog 81 #[.agg #[.int .i64 x.a, .int .i64 x.pt.a, .int .i64 x.pt.b, .string x.s]] w fun e w' => e = .returned (.agg #[.int .i64 x.a, .int .i64 x.pt.a, .int .i64 x.pt.b, .string x.s]) ∧ Ext w w' := by
  go_enter Tryz.func81, Tryz.ntmps81
  go_upto_region 2 with (fail)
  generalize hW : World.alloc (World.alloc (World.alloc _ _) _) _ = W0
  obtain ⟨E0, z0, b0, b1, b2⟩ := boxes3 hW
  clear hW
  replace z0 := hid z0
  have b0 : Blk W0 w.heap.size [_, _, _, _] _ := b0
  have b1 : Blk W0 (w.heap.size + 1) [_, _, _, _] _ := b1
  have b2 : Blk W0 (w.heap.size + 1 + 1) [_, _, _, _] _ := b2
  have E := hid E0
  clear E0
  have g0 := b0.cells
  have l0 := b0.lt
  have g1 := b1.cells
  have f1 := b1.free
  have l1 := b1.lt
  have g2 := b2.cells
  have f2 := b2.free
  have l2 := b2.lt
  replace b0 := hid b0
  replace b1 := hid b1
  replace b2 := hid b2
  go_wp2_with fail
  refine (toPointD_any x.pt _).mono ?_
  rintro e w1 ⟨rfl, E1⟩
  replace b0 := hid ((b0.out.other (B := w.heap.size + 1 + 1) 0 (.int .i64 x.a) (by omega)).ext E1)
  replace b1 := hid ((b1.out.other (B := w.heap.size + 1 + 1) 0 (.int .i64 x.a) (by omega)).ext E1)
  replace b2 := hid ((b2.out.set 0 (.int .i64 x.a)).ext E1)
  replace E := hid ((E.out.setCell (p := ⟨w.heap.size + 1 + 1, 0, none⟩) (by show w.heap.size ≤ w.heap.size + 1 + 1; omega) (.int .i64 x.a)).trans E1)
  clear g0 l0 g1 f1 l1 g2 f2 l2 E1
  have g0 := b0.out.cells
  have l0 := b0.out.lt
  have g1 := b1.out.cells
  have f1 := b1.out.free
  have l1 := b1.out.lt
  have g2 := b2.out.cells
  have f2 := b2.out.free
  have l2 := b2.out.lt
  go_wp2_with fail
  have kB := (((((((b1.out.other (B := w.heap.size + 1 + 1) 1 (.int .i64 x.pt.a) (by omega)).other (B := w.heap.size + 1 + 1) 2 (.int .i64 x.pt.b) (by omega)).other (B := w.heap.size + 1 + 1) 3 (.string x.s) (by omega)).set 0 (.int .i64 x.a)).set 1 (.int .i64 x.pt.a)).set 2 (.int .i64 x.pt.b)).set 3 (.string x.s)).cells
  have hE := (((((((E.out.setCell (p := ⟨w.heap.size + 1 + 1, 1, none⟩) (by show w.heap.size ≤ w.heap.size + 1 + 1; omega) (.int .i64 x.pt.a)).setCell (p := ⟨w.heap.size + 1 + 1, 2, none⟩) (by show w.heap.size ≤ w.heap.size + 1 + 1; omega) (.int .i64 x.pt.b)).setCell (p := ⟨w.heap.size + 1 + 1, 3, none⟩) (by show w.heap.size ≤ w.heap.size + 1 + 1; omega) (.string x.s)).setCell (p := ⟨w.heap.size + 1, 0, none⟩) (by show w.heap.size ≤ w.heap.size + 1; omega) (.int .i64 x.a)).setCell (p := ⟨w.heap.size + 1, 1, none⟩) (by show w.heap.size ≤ w.heap.size + 1; omega) (.int .i64 x.pt.a)).setCell (p := ⟨w.heap.size + 1, 2, none⟩) (by show w.heap.size ≤ w.heap.size + 1; omega) (.int .i64 x.pt.b)).setCell (p := ⟨w.heap.size + 1, 3, none⟩) (by show w.heap.size ≤ w.heap.size + 1; omega) (.string x.s))
  refine bodyPost_ret (v := .agg #[.int .i64 x.a, .int .i64 x.pt.a, .int .i64 x.pt.b, .string x.s]) (by simp [results, Tryz.results81, go_sem, kB]) rfl ⟨rfl, hE⟩
set_option maxRecDepth 100000 in
set_option maxHeartbeats 4000000 in
theorem toInstanceD_any (x : InD) (w : World) :
    Calls Tryz.prog 82 #[.agg #[.int .i64 x.a, .int .i64 x.tr.a, .int .i64 x.tr.b, .int .i64 x.tr.c, .int .i64 x.c, .int .i64 x.d, .int .i64 x.e, .int .i64 x.f]] w fun e w' => e = .returned (.agg #[.int .i64 x.a, .int .i64 x.tr.a, .int .i64 x.tr.b, .int .i64 x.tr.c, .int .i64 x.c, .int .i64 x.d, .int .i64 x.e, .int .i64 x.f]) ∧ Ext w w' := by
  go_enter Tryz.func82, Tryz.ntmps82
  go_upto_region 2 with (fail)
  generalize hW : World.alloc (World.alloc (World.alloc _ _) _) _ = W0
  obtain ⟨E0, z0, b0, b1, b2⟩ := boxes3 hW
  clear hW
  replace z0 := hid z0
  have b0 : Blk W0 w.heap.size [_, _, _, _, _, _, _, _] _ := b0
  have b1 : Blk W0 (w.heap.size + 1) [_, _, _, _, _, _, _, _] _ := b1
  have b2 : Blk W0 (w.heap.size + 1 + 1) [_, _, _, _, _, _, _, _] _ := b2
  have E := hid E0
  clear E0
  have g0 := b0.cells
  have l0 := b0.lt
  have g1 := b1.cells
  have f1 := b1.free
  have l1 := b1.lt
  have g2 := b2.cells
  have f2 := b2.free
  have l2 := b2.lt
  replace b0 := hid b0
  replace b1 := hid b1
  replace b2 := hid b2
  go_wp2_with fail
  refine (toTransformD_any x.tr _).mono ?_
  rintro e w1 ⟨rfl, E1⟩
  replace b0 := hid ((b0.out.other (B := w.heap.size + 1 + 1) 0 (.int .i64 x.a) (by omega)).ext E1)
  replace b1 := hid ((b1.out.other (B := w.heap.size + 1 + 1) 0 (.int .i64 x.a) (by omega)).ext E1)
  replace b2 := hid ((b2.out.set 0 (.int .i64 x.a)).ext E1)
  replace E := hid ((E.out.setCell (p := ⟨w.heap.size + 1 + 1, 0, none⟩) (by show w.heap.size ≤ w.heap.size + 1 + 1; omega) (.int .i64 x.a)).trans E1)
  clear g0 l0 g1 f1 l1 g2 f2 l2 E1
  have g0 := b0.out.cells
  have l0 := b0.out.lt
  have g1 := b1.out.cells
  have f1 := b1.out.free
  have l1 := b1.out.lt
  have g2 := b2.out.cells
  have f2 := b2.out.free
  have l2 := b2.out.lt
  go_wp2_with fail
  have kB := (((((((((((((((b1.out.other (B := w.heap.size + 1 + 1) 1 (.int .i64 x.tr.a) (by omega)).other (B := w.heap.size + 1 + 1) 2 (.int .i64 x.tr.b) (by omega)).other (B := w.heap.size + 1 + 1) 3 (.int .i64 x.tr.c) (by omega)).other (B := w.heap.size + 1 + 1) 4 (.int .i64 x.c) (by omega)).other (B := w.heap.size + 1 + 1) 5 (.int .i64 x.d) (by omega)).other (B := w.heap.size + 1 + 1) 6 (.int .i64 x.e) (by omega)).other (B := w.heap.size + 1 + 1) 7 (.int .i64 x.f) (by omega)).set 0 (.int .i64 x.a)).set 1 (.int .i64 x.tr.a)).set 2 (.int .i64 x.tr.b)).set 3 (.int .i64 x.tr.c)).set 4 (.int .i64 x.c)).set 5 (.int .i64 x.d)).set 6 (.int .i64 x.e)).set 7 (.int .i64 x.f)).cells
  have hE := (((((((((((((((E.out.setCell (p := ⟨w.heap.size + 1 + 1, 1, none⟩) (by show w.heap.size ≤ w.heap.size + 1 + 1; omega) (.int .i64 x.tr.a)).setCell (p := ⟨w.heap.size + 1 + 1, 2, none⟩) (by show w.heap.size ≤ w.heap.size + 1 + 1; omega) (.int .i64 x.tr.b)).setCell (p := ⟨w.heap.size + 1 + 1, 3, none⟩) (by show w.heap.size ≤ w.heap.size + 1 + 1; omega) (.int .i64 x.tr.c)).setCell (p := ⟨w.heap.size + 1 + 1, 4, none⟩) (by show w.heap.size ≤ w.heap.size + 1 + 1; omega) (.int .i64 x.c)).setCell (p := ⟨w.heap.size + 1 + 1, 5, none⟩) (by show w.heap.size ≤ w.heap.size + 1 + 1; omega) (.int .i64 x.d)).setCell (p := ⟨w.heap.size + 1 + 1, 6, none⟩) (by show w.heap.size ≤ w.heap.size + 1 + 1; omega) (.int .i64 x.e)).setCell (p := ⟨w.heap.size + 1 + 1, 7, none⟩) (by show w.heap.size ≤ w.heap.size + 1 + 1; omega) (.int .i64 x.f)).setCell (p := ⟨w.heap.size + 1, 0, none⟩) (by show w.heap.size ≤ w.heap.size + 1; omega) (.int .i64 x.a)).setCell (p := ⟨w.heap.size + 1, 1, none⟩) (by show w.heap.size ≤ w.heap.size + 1; omega) (.int .i64 x.tr.a)).setCell (p := ⟨w.heap.size + 1, 2, none⟩) (by show w.heap.size ≤ w.heap.size + 1; omega) (.int .i64 x.tr.b)).setCell (p := ⟨w.heap.size + 1, 3, none⟩) (by show w.heap.size ≤ w.heap.size + 1; omega) (.int .i64 x.tr.c)).setCell (p := ⟨w.heap.size + 1, 4, none⟩) (by show w.heap.size ≤ w.heap.size + 1; omega) (.int .i64 x.c)).setCell (p := ⟨w.heap.size + 1, 5, none⟩) (by show w.heap.size ≤ w.heap.size + 1; omega) (.int .i64 x.d)).setCell (p := ⟨w.heap.size + 1, 6, none⟩) (by show w.heap.size ≤ w.heap.size + 1; omega) (.int .i64 x.e)).setCell (p := ⟨w.heap.size + 1, 7, none⟩) (by show w.heap.size ≤ w.heap.size + 1; omega) (.int .i64 x.f))
  refine bodyPost_ret (v := .agg #[.int .i64 x.a, .int .i64 x.tr.a, .int .i64 x.tr.b, .int .i64 x.tr.c, .int .i64 x.c, .int .i64 x.d, .int .i64 x.e, .int .i64 x.f]) (by simp [results, Tryz.results82, go_sem, kB]) rfl ⟨rfl, hE⟩
set_option maxRecDepth 100000 in
set_option maxHeartbeats 2000000 in
theorem eqRectD_any (x : Q4) (w : World) :
    Calls Tryz.prog 34 #[.agg #[.int .i64 x.a, .int .i64 x.b, .int .i64 x.c, .int .i64 x.d], .agg #[.int .i64 x.a, .int .i64 x.b, .int .i64 x.c, .int .i64 x.d]] w fun e w' => e = .returned (.bool true) ∧ Ext w w' := by
  go_enter Tryz.func34, Tryz.ntmps34
  go_wp2
  go_ret
  refine ⟨rfl, ?_⟩
  repeat (first | exact Ext.refl _ | refine Ext.alloc ?_ _)
set_option maxRecDepth 100000 in
set_option maxHeartbeats 2000000 in
theorem eqPointD_any (x : Q2) (w : World) :
    Calls Tryz.prog 35 #[.agg #[.int .i64 x.a, .int .i64 x.b], .agg #[.int .i64 x.a, .int .i64 x.b]] w fun e w' => e = .returned (.bool true) ∧ Ext w w' := by
  go_enter Tryz.func35, Tryz.ntmps35
  go_wp2
  go_ret
  refine ⟨rfl, ?_⟩
  repeat (first | exact Ext.refl _ | refine Ext.alloc ?_ _)
set_option maxRecDepth 100000 in
set_option maxHeartbeats 2000000 in
theorem eqTransformD_any (x : Q3) (w : World) :
    Calls Tryz.prog 36 #[.agg #[.int .i64 x.a, .int .i64 x.b, .int .i64 x.c], .agg #[.int .i64 x.a, .int .i64 x.b, .int .i64 x.c]] w fun e w' => e = .returned (.bool true) ∧ Ext w w' := by
  go_enter Tryz.func36, Tryz.ntmps36
  go_wp2
  go_ret
  refine ⟨rfl, ?_⟩
  repeat (first | exact Ext.refl _ | refine Ext.alloc ?_ _)
set_option maxRecDepth 100000 in
set_option maxHeartbeats 2000000 in
theorem eqShapeD_any (x : ShD) (w : World) :
    Calls Tryz.prog 18 #[.agg #[.int .i64 x.a, .int .i64 x.box.a, .int .i64 x.box.b, .int .i64 x.box.c, .int .i64 x.box.d], .agg #[.int .i64 x.a, .int .i64 x.box.a, .int .i64 x.box.b, .int .i64 x.box.c, .int .i64 x.box.d]] w fun e w' => e = .returned (.bool true) ∧ Ext w w' := by
  go_enter Tryz.func18, Tryz.ntmps18
  go_wp2
  go_ret
  refine ⟨rfl, ?_⟩
  repeat (first | exact Ext.refl _ | refine Ext.alloc ?_ _)
set_option maxRecDepth 100000 in
set_option maxHeartbeats 2000000 in
theorem eqLabelD_any (x : LbD) (w : World) :
    Calls Tryz.prog 19 #[.agg #[.int .i64 x.a, .int .i64 x.pt.a, .int .i64 x.pt.b, .string x.s], .agg #[.int .i64 x.a, .int .i64 x.pt.a, .int .i64 x.pt.b, .string x.s]] w fun e w' => e = .returned (.bool true) ∧ Ext w w' := by
  go_enter Tryz.func19, Tryz.ntmps19
  go_wp2
  go_ret
  refine ⟨rfl, ?_⟩
  repeat (first | exact Ext.refl _ | refine Ext.alloc ?_ _)
set_option maxRecDepth 100000 in
set_option maxHeartbeats 2000000 in
theorem eqInstanceD_any (x : InD) (w : World) :
    Calls Tryz.prog 20 #[.agg #[.int .i64 x.a, .int .i64 x.tr.a, .int .i64 x.tr.b, .int .i64 x.tr.c, .int .i64 x.c, .int .i64 x.d, .int .i64 x.e, .int .i64 x.f], .agg #[.int .i64 x.a, .int .i64 x.tr.a, .int .i64 x.tr.b, .int .i64 x.tr.c, .int .i64 x.c, .int .i64 x.d, .int .i64 x.e, .int .i64 x.f]] w fun e w' => e = .returned (.bool true) ∧ Ext w w' := by
  go_enter Tryz.func20, Tryz.ntmps20
  go_wp2
  go_ret
  refine ⟨rfl, ?_⟩
  repeat (first | exact Ext.refl _ | refine Ext.alloc ?_ _)
end Go.Proofs.YtncmhefendhinaaGreatDoor
