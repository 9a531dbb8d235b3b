/- Contracts of toX, eqX, szX at elements without inner slices. No condition but that a string's length fits. -/
import Derived.Test.YtajlkanocngdfaaGreatDfl
import Derived.Deep.Cut
import Derived.Laws.Rows
namespace Go.Proofs.YtajlkanocngdfaaGreat
open Go.RowKit

set_option maxRecDepth 100000 in
set_option maxHeartbeats 4000000 in
theorem toEditD_any (x : EdD) (w : World) :
    Calls Tryz.prog 108 #[.agg #[.int .i64 x.a, .int .i64 x.b, .int .i64 x.c, .string x.s, .int .i64 x.sh.a, .int .i64 x.sh.box.a, .int .i64 x.sh.box.b, .int .i64 x.sh.box.c, .int .i64 x.sh.box.d, .int .i64 x.lb.a, .int .i64 x.lb.pt.a, .int .i64 x.lb.pt.b, .string x.lb.s, .int .i64 x.ins.a, .int .i64 x.ins.tr.a, .int .i64 x.ins.tr.b, .int .i64 x.ins.tr.c, .int .i64 x.ins.c, .int .i64 x.ins.d, .int .i64 x.ins.e, .int .i64 x.ins.f]] w fun e w' => e = .returned (.agg #[.int .i64 x.a, .int .i64 x.b, .int .i64 x.c, .string x.s, .int .i64 x.sh.a, .int .i64 x.sh.box.a, .int .i64 x.sh.box.b, .int .i64 x.sh.box.c, .int .i64 x.sh.box.d, .int .i64 x.lb.a, .int .i64 x.lb.pt.a, .int .i64 x.lb.pt.b, .string x.lb.s, .int .i64 x.ins.a, .int .i64 x.ins.tr.a, .int .i64 x.ins.tr.b, .int .i64 x.ins.tr.c, .int .i64 x.ins.c, .int .i64 x.ins.d, .int .i64 x.ins.e, .int .i64 x.ins.f]) ∧ Ext w w' := by
  go_enter Tryz.func108, Tryz.ntmps108
  go_upto_region 2 with (fail)
  generalize hW : World.alloc (World.alloc (World.alloc _ _) _) _ = W0
  obtain ⟨E0, z0, b0, b1, b2⟩ := boxes3 hW
  clear hW
  replace z0 := hid z0
  have b0 : Blk W0 w.heap.size [_, _, _, _, _, _, _, _, _, _, _, _, _, _, _, _, _, _, _, _, _] _ := b0
  have b1 : Blk W0 (w.heap.size + 1) [_, _, _, _, _, _, _, _, _, _, _, _, _, _, _, _, _, _, _, _, _] _ := b1
  have b2 : Blk W0 (w.heap.size + 1 + 1) [_, _, _, _, _, _, _, _, _, _, _, _, _, _, _, _, _, _, _, _, _] _ := b2
  have E := hid E0
  clear E0
  have g0 := b0.cells
  have l0 := b0.lt
  have g1 := b1.cells
  have f1 := b1.free
  have l1 := b1.lt
  have g2 := b2.cells
  have f2 := b2.free
  have l2 := b2.lt
  replace b0 := hid b0
  replace b1 := hid b1
  replace b2 := hid b2
  go_wp2_with fail
  refine (toShapeD_any x.sh _).mono ?_
  rintro e w1 ⟨rfl, E1⟩
  replace b0 := hid (((((b0.out.other (B := w.heap.size + 1 + 1) 0 (.int .i64 x.a) (by omega)).other (B := w.heap.size + 1 + 1) 1 (.int .i64 x.b) (by omega)).other (B := w.heap.size + 1 + 1) 2 (.int .i64 x.c) (by omega)).other (B := w.heap.size + 1 + 1) 3 (.string x.s) (by omega)).ext E1)
  replace b1 := hid (((((b1.out.other (B := w.heap.size + 1 + 1) 0 (.int .i64 x.a) (by omega)).other (B := w.heap.size + 1 + 1) 1 (.int .i64 x.b) (by omega)).other (B := w.heap.size + 1 + 1) 2 (.int .i64 x.c) (by omega)).other (B := w.heap.size + 1 + 1) 3 (.string x.s) (by omega)).ext E1)
  have b2' := (((((b2.out.set 0 (.int .i64 x.a)).set 1 (.int .i64 x.b)).set 2 (.int .i64 x.c)).set 3 (.string x.s)).ext E1)
  simp only [List.set_cons_zero, List.set_cons_succ] at b2'
  clear b2
  have b2 := hid b2'
  clear b2'
  replace E := hid (((((E.out.setCell (p := ⟨w.heap.size + 1 + 1, 0, none⟩) (by show w.heap.size ≤ w.heap.size + 1 + 1; omega) (.int .i64 x.a)).setCell (p := ⟨w.heap.size + 1 + 1, 1, none⟩) (by show w.heap.size ≤ w.heap.size + 1 + 1; omega) (.int .i64 x.b)).setCell (p := ⟨w.heap.size + 1 + 1, 2, none⟩) (by show w.heap.size ≤ w.heap.size + 1 + 1; omega) (.int .i64 x.c)).setCell (p := ⟨w.heap.size + 1 + 1, 3, none⟩) (by show w.heap.size ≤ w.heap.size + 1 + 1; omega) (.string x.s)).trans E1)
  clear g0 l0 g1 f1 l1 g2 f2 l2 E1
  have g0 := b0.out.cells
  have l0 := b0.out.lt
  have g1 := b1.out.cells
  have f1 := b1.out.free
  have l1 := b1.out.lt
  have g2 := b2.out.cells
  have f2 := b2.out.free
  have l2 := b2.out.lt
  go_wp2_with fail
  refine (toLabelD_any x.lb _).mono ?_
  rintro e w2 ⟨rfl, E2⟩
  replace b0 := hid ((((((b0.out.other (B := w.heap.size + 1 + 1) 4 (.int .i64 x.sh.a) (by omega)).other (B := w.heap.size + 1 + 1) 5 (.int .i64 x.sh.box.a) (by omega)).other (B := w.heap.size + 1 + 1) 6 (.int .i64 x.sh.box.b) (by omega)).other (B := w.heap.size + 1 + 1) 7 (.int .i64 x.sh.box.c) (by omega)).other (B := w.heap.size + 1 + 1) 8 (.int .i64 x.sh.box.d) (by omega)).ext E2)
  replace b1 := hid ((((((b1.out.other (B := w.heap.size + 1 + 1) 4 (.int .i64 x.sh.a) (by omega)).other (B := w.heap.size + 1 + 1) 5 (.int .i64 x.sh.box.a) (by omega)).other (B := w.heap.size + 1 + 1) 6 (.int .i64 x.sh.box.b) (by omega)).other (B := w.heap.size + 1 + 1) 7 (.int .i64 x.sh.box.c) (by omega)).other (B := w.heap.size + 1 + 1) 8 (.int .i64 x.sh.box.d) (by omega)).ext E2)
  have b2' := ((((((b2.out.set 4 (.int .i64 x.sh.a)).set 5 (.int .i64 x.sh.box.a)).set 6 (.int .i64 x.sh.box.b)).set 7 (.int .i64 x.sh.box.c)).set 8 (.int .i64 x.sh.box.d)).ext E2)
  simp only [List.set_cons_zero, List.set_cons_succ] at b2'
  clear b2
  have b2 := hid b2'
  clear b2'
  replace E := hid ((((((E.out.setCell (p := ⟨w.heap.size + 1 + 1, 4, none⟩) (by show w.heap.size ≤ w.heap.size + 1 + 1; omega) (.int .i64 x.sh.a)).setCell (p := ⟨w.heap.size + 1 + 1, 5, none⟩) (by show w.heap.size ≤ w.heap.size + 1 + 1; omega) (.int .i64 x.sh.box.a)).setCell (p := ⟨w.heap.size + 1 + 1, 6, none⟩) (by show w.heap.size ≤ w.heap.size + 1 + 1; omega) (.int .i64 x.sh.box.b)).setCell (p := ⟨w.heap.size + 1 + 1, 7, none⟩) (by show w.heap.size ≤ w.heap.size + 1 + 1; omega) (.int .i64 x.sh.box.c)).setCell (p := ⟨w.heap.size + 1 + 1, 8, none⟩) (by show w.heap.size ≤ w.heap.size + 1 + 1; omega) (.int .i64 x.sh.box.d)).trans E2)
  clear g0 l0 g1 f1 l1 g2 f2 l2 E2
  have g0 := b0.out.cells
  have l0 := b0.out.lt
  have g1 := b1.out.cells
  have f1 := b1.out.free
  have l1 := b1.out.lt
  have g2 := b2.out.cells
  have f2 := b2.out.free
  have l2 := b2.out.lt
  go_wp2_with fail
  refine (toInstanceD_any x.ins _).mono ?_
  rintro e w3 ⟨rfl, E3⟩
  replace b0 := hid (((((b0.out.other (B := w.heap.size + 1 + 1) 9 (.int .i64 x.lb.a) (by omega)).other (B := w.heap.size + 1 + 1) 10 (.int .i64 x.lb.pt.a) (by omega)).other (B := w.heap.size + 1 + 1) 11 (.int .i64 x.lb.pt.b) (by omega)).other (B := w.heap.size + 1 + 1) 12 (.string x.lb.s) (by omega)).ext E3)
  replace b1 := hid (((((b1.out.other (B := w.heap.size + 1 + 1) 9 (.int .i64 x.lb.a) (by omega)).other (B := w.heap.size + 1 + 1) 10 (.int .i64 x.lb.pt.a) (by omega)).other (B := w.heap.size + 1 + 1) 11 (.int .i64 x.lb.pt.b) (by omega)).other (B := w.heap.size + 1 + 1) 12 (.string x.lb.s) (by omega)).ext E3)
  have b2' := (((((b2.out.set 9 (.int .i64 x.lb.a)).set 10 (.int .i64 x.lb.pt.a)).set 11 (.int .i64 x.lb.pt.b)).set 12 (.string x.lb.s)).ext E3)
  simp only [List.set_cons_zero, List.set_cons_succ] at b2'
  clear b2
  have b2 := hid b2'
  clear b2'
  replace E := hid (((((E.out.setCell (p := ⟨w.heap.size + 1 + 1, 9, none⟩) (by show w.heap.size ≤ w.heap.size + 1 + 1; omega) (.int .i64 x.lb.a)).setCell (p := ⟨w.heap.size + 1 + 1, 10, none⟩) (by show w.heap.size ≤ w.heap.size + 1 + 1; omega) (.int .i64 x.lb.pt.a)).setCell (p := ⟨w.heap.size + 1 + 1, 11, none⟩) (by show w.heap.size ≤ w.heap.size + 1 + 1; omega) (.int .i64 x.lb.pt.b)).setCell (p := ⟨w.heap.size + 1 + 1, 12, none⟩) (by show w.heap.size ≤ w.heap.size + 1 + 1; omega) (.string x.lb.s)).trans E3)
  clear g0 l0 g1 f1 l1 g2 f2 l2 E3
  have g0 := b0.out.cells
  have l0 := b0.out.lt
  have g1 := b1.out.cells
  have f1 := b1.out.free
  have l1 := b1.out.lt
  have g2 := b2.out.cells
  have f2 := b2.out.free
  have l2 := b2.out.lt
  go_upto_region 9 with (fail)
  generalize hV : World.setCell _ _ _ = W9
  have B1 := hid (show Blk W9 (w.heap.size + 1) _ 186 from by rw [← hV]; exact ((((((((b1.out.other (B := w.heap.size + 1 + 1) 13 (.int .i64 x.ins.a) (by omega)).other (B := w.heap.size + 1 + 1) 14 (.int .i64 x.ins.tr.a) (by omega)).other (B := w.heap.size + 1 + 1) 15 (.int .i64 x.ins.tr.b) (by omega)).other (B := w.heap.size + 1 + 1) 16 (.int .i64 x.ins.tr.c) (by omega)).other (B := w.heap.size + 1 + 1) 17 (.int .i64 x.ins.c) (by omega)).other (B := w.heap.size + 1 + 1) 18 (.int .i64 x.ins.d) (by omega)).other (B := w.heap.size + 1 + 1) 19 (.int .i64 x.ins.e) (by omega)).other (B := w.heap.size + 1 + 1) 20 (.int .i64 x.ins.f) (by omega)))
  have b2' := ((((((((b2.out.set 13 (.int .i64 x.ins.a)).set 14 (.int .i64 x.ins.tr.a)).set 15 (.int .i64 x.ins.tr.b)).set 16 (.int .i64 x.ins.tr.c)).set 17 (.int .i64 x.ins.c)).set 18 (.int .i64 x.ins.d)).set 19 (.int .i64 x.ins.e)).set 20 (.int .i64 x.ins.f))
  simp only [List.set_cons_zero, List.set_cons_succ] at b2'
  rw [hV] at b2'
  have B2 : Hid (Blk W9 (w.heap.size + 1 + 1) (encEd x) 186) := b2'
  clear b2'
  have hE := hid (show Ext w W9 from by rw [← hV]; exact ((((((((E.out.setCell (p := ⟨w.heap.size + 1 + 1, 13, none⟩) (by show w.heap.size ≤ w.heap.size + 1 + 1; omega) (.int .i64 x.ins.a)).setCell (p := ⟨w.heap.size + 1 + 1, 14, none⟩) (by show w.heap.size ≤ w.heap.size + 1 + 1; omega) (.int .i64 x.ins.tr.a)).setCell (p := ⟨w.heap.size + 1 + 1, 15, none⟩) (by show w.heap.size ≤ w.heap.size + 1 + 1; omega) (.int .i64 x.ins.tr.b)).setCell (p := ⟨w.heap.size + 1 + 1, 16, none⟩) (by show w.heap.size ≤ w.heap.size + 1 + 1; omega) (.int .i64 x.ins.tr.c)).setCell (p := ⟨w.heap.size + 1 + 1, 17, none⟩) (by show w.heap.size ≤ w.heap.size + 1 + 1; omega) (.int .i64 x.ins.c)).setCell (p := ⟨w.heap.size + 1 + 1, 18, none⟩) (by show w.heap.size ≤ w.heap.size + 1 + 1; omega) (.int .i64 x.ins.d)).setCell (p := ⟨w.heap.size + 1 + 1, 19, none⟩) (by show w.heap.size ≤ w.heap.size + 1 + 1; omega) (.int .i64 x.ins.e)).setCell (p := ⟨w.heap.size + 1 + 1, 20, none⟩) (by show w.heap.size ≤ w.heap.size + 1 + 1; omega) (.int .i64 x.ins.f)))
  clear hV g0 l0 g1 f1 l1 g2 f2 l2 b0 b1 b2 E
  have r2 := hid (range_blk B2.out)
  have r1 := hid (there_blk B1.out)
  have hs : (Tryz.prog.info? 186).map (·.size) = some (encEd x).length := by rw [show (encEd x).length = 21 from rfl]; kernel_rfl
  have hs2 : (Tryz.prog.info? 186).map (·.size) = some (encEd x).toArray.size := hs
  have h1c : (encEd x).toArray.all (·.oneCell') = true := by unfold encEd; simp [Value.oneCell']
  replace hs := hid hs
  replace hs2 := hid hs2
  replace h1c := hid h1c
  go_wp2_with (first
    | (refine wpList_load_mid rfl 186 (Operand.tmp 3) rfl (w.heap.size + 1 + 1) 0 rfl (encEd x) _ r2.out Tryz.underlying186 rfl hs.out ?_)
    | (refine wpList_store_mid rfl 186 (Operand.tmp 2) _ rfl (w.heap.size + 1) 0 (encEd x).toArray rfl rfl r1.out hs2.out h1c.out ?_))
  generalize hV : World.setCells _ _ _ _ = W10
  have kB : Blk W10 (w.heap.size + 1) (encEd x) 186 := by rw [← hV]; exact B1.out.setAll (vs := encEd x) rfl
  have hE2 : Ext w W10 := by rw [← hV]; exact ext_setCells (by omega) _ _ _ hE.out
  clear hV
  exact bodyPost_ret (v := .agg (encEd x).toArray) (results_cell_row Tryz.results108 _ _ (w.heap.size + 1) 186 (encEd x).toArray (0, 0) _ rfl kB Tryz.underlying186 rfl hs2.out) rfl ⟨rfl, hE2⟩
set_option maxRecDepth 100000 in
set_option maxHeartbeats 2000000 in
theorem eqEditD_any (x : EdD) (w : World) :
    Calls Tryz.prog 129 #[.agg #[.int .i64 x.a, .int .i64 x.b, .int .i64 x.c, .string x.s, .int .i64 x.sh.a, .int .i64 x.sh.box.a, .int .i64 x.sh.box.b, .int .i64 x.sh.box.c, .int .i64 x.sh.box.d, .int .i64 x.lb.a, .int .i64 x.lb.pt.a, .int .i64 x.lb.pt.b, .string x.lb.s, .int .i64 x.ins.a, .int .i64 x.ins.tr.a, .int .i64 x.ins.tr.b, .int .i64 x.ins.tr.c, .int .i64 x.ins.c, .int .i64 x.ins.d, .int .i64 x.ins.e, .int .i64 x.ins.f], .agg #[.int .i64 x.a, .int .i64 x.b, .int .i64 x.c, .string x.s, .int .i64 x.sh.a, .int .i64 x.sh.box.a, .int .i64 x.sh.box.b, .int .i64 x.sh.box.c, .int .i64 x.sh.box.d, .int .i64 x.lb.a, .int .i64 x.lb.pt.a, .int .i64 x.lb.pt.b, .string x.lb.s, .int .i64 x.ins.a, .int .i64 x.ins.tr.a, .int .i64 x.ins.tr.b, .int .i64 x.ins.tr.c, .int .i64 x.ins.c, .int .i64 x.ins.d, .int .i64 x.ins.e, .int .i64 x.ins.f]] w fun e w' => e = .returned (.bool true) ∧ Ext w w' := by
  go_enter Tryz.func129, Tryz.ntmps129
  go_wp2
  go_ret
  refine ⟨rfl, ?_⟩
  repeat (first | exact Ext.refl _ | refine Ext.alloc ?_ _)
end Go.Proofs.YtajlkanocngdfaaGreat
