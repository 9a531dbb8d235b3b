/- The law FnExactRouteDistance over the contracts of both sides. Condition: at most 2^20 rectangles. -/
import Derived.Test.YthdilndfcdpeiaaRds
import Derived.Test.YthdilndfcdpeiaaIsd
import Derived.Deep.RegionHeld3
namespace Go.Proofs.Ythdilndfcdpeiaa
open Go.RowKit

set_option maxRecDepth 100000 in
set_option maxHeartbeats 4000000 in
theorem lawRouteDistance (q0 : Option Addr) (n0 c0 : Nat) (l0 : List Q4) (a1 : Q2) (a2 : Q2) (s0 : Int) (w : World) (h0 : SlT enc4 4 w q0 n0 l0) (m0 : n0 ≤ maxLen) 
    (hS : Hid (n0 ≤ 1048576 → ∀ (W : World) (q0 : Option Addr) (c0 : Nat), SlT enc4 4 W q0 n0 l0 → Calls Try.prog 35 #[.slice q0 n0 c0, .agg #[.int .i64 a1.a, .int .i64 a1.b], .agg #[.int .i64 a2.a, .int .i64 a2.b]] W fun e w' => e = .returned (.int .i64 s0) ∧ Ext W w'))
    (hI : Hid (n0 ≤ 1048576 → ∀ (W : World) (q0 : Option Addr) (c0 : Nat), SlT enc4 4 W q0 n0 l0 → Calls Try.prog 18 #[.slice q0 n0 c0, .agg #[.int .i64 a1.a, .int .i64 a1.b], .agg #[.int .i64 a2.a, .int .i64 a2.b]] W fun e w' => e = .returned (.int .i64 s0) ∧ Ext W w')) :
    Calls Try.prog 7 #[.slice q0 n0 c0, .agg #[.int .i64 a1.a, .int .i64 a1.b], .agg #[.int .i64 a2.a, .int .i64 a2.b]] w fun e w' => e = .returned (.bool true) ∧ Ext w w' := by
  have e0 := hid h0.length
  unfold maxLen at m0
  by_cases x0 : 1048576 < (n0 : Int)
  · go_enter Try.func7, Try.ntmps7
    go_wp2_with fail
    generalize hW : (w.alloc _).alloc _ = W0
    obtain ⟨E0, z0, bb1, bb2⟩ := boxes2 hW
    clear hW
    have gb1 := hid (show Blk W0 (w.heap.size) [.int .i64 a1.a, .int .i64 a1.b] _ from bb1)
    clear bb1
    have gb2 := hid (show Blk W0 (w.heap.size + 1) [.int .i64 a2.a, .int .i64 a2.b] _ from bb2)
    clear bb2
    replace z0 := hid z0
    refine (szRectS_any q0 n0 c0 _ _ (by omega) (by omega) (by omega)).mono ?_
    rintro e w' ⟨rfl, rfl⟩
    rw [if_pos (by omega)]
    go_wp2_with fail
    go_ret
    exact ⟨rfl, E0⟩
  go_enter Try.func7, Try.ntmps7
  go_wp2_with fail
  generalize hW : (w.alloc _).alloc _ = W0
  obtain ⟨E0, z0, bb1, bb2⟩ := boxes2 hW
  clear hW
  have gb1 := hid (show Blk W0 (w.heap.size) [.int .i64 a1.a, .int .i64 a1.b] _ from bb1)
  clear bb1
  have gb2 := hid (show Blk W0 (w.heap.size + 1) [.int .i64 a2.a, .int .i64 a2.b] _ from bb2)
  clear bb2
  replace z0 := hid z0
  refine (szRectS_any q0 n0 c0 _ _ (by omega) (by omega) (by omega)).mono ?_
  rintro e w' ⟨rfl, rfl⟩
  rw [if_neg (by omega)]
  have y0 := x0
  replace x0 : n0 ≤ 1048576 := by omega
  clear y0
  have F := E0
  have G := Ext.refl W0
  go_wp2_with fail
  have gc := (gb1.out.ext G).cells
  have e1a := gc 0
  have e1b := gc 1
  simp only [List.getElem?_cons_zero, List.getElem?_cons_succ] at e1a e1b
  have hb1 := (gb1.out.ext G).lt
  clear gc
  have gc := (gb2.out.ext G).cells
  have e2a := gc 0
  have e2b := gc 1
  simp only [List.getElem?_cons_zero, List.getElem?_cons_succ] at e2a e2b
  have hb2 := (gb2.out.ext G).lt
  clear gc
  have H : Ext W0 _ := (Ext.refl W0).drew
  go_region_held3 (fun w' => w'.cell? ⟨w.heap.size, 0, none⟩ = some (.int .i64 a1.a) ∧ w'.cell? ⟨w.heap.size, 1, none⟩ = some (.int .i64 a1.b) ∧ w'.cell? ⟨w.heap.size + 1, 0, none⟩ = some (.int .i64 a2.a) ∧ w'.cell? ⟨w.heap.size + 1, 1, none⟩ = some (.int .i64 a2.b))
    (exact ⟨e1a, e1b, e2a, e2b⟩)
    (first
      | (go_at_call 22; refine (toRectS_any q0 n0 c0 l0 _ (h0.ext (F.trans H)) (by omega)).mono ?_; rintro e w2a ⟨t0, rfl, ot0, E⟩; replace e1a := (E.cells _ 0 hb1).trans e1a; replace e1b := (E.cells _ 1 hb1).trans e1b; replace e2a := (E.cells _ 0 hb2).trans e2a; replace e2b := (E.cells _ 1 hb2).trans e2b; replace hb1 := Nat.lt_of_lt_of_le hb1 E.le; replace hb2 := Nat.lt_of_lt_of_le hb2 E.le; replace H := H.trans E; clear E)
      | (go_at_call 36; refine (toPoint_any _ _ _).mono ?_; rintro e w2b ⟨rfl, E⟩; replace e1a := (E.cells _ 0 hb1).trans e1a; replace e1b := (E.cells _ 1 hb1).trans e1b; replace e2a := (E.cells _ 0 hb2).trans e2a; replace e2b := (E.cells _ 1 hb2).trans e2b; replace hb1 := Nat.lt_of_lt_of_le hb1 E.le; replace hb2 := Nat.lt_of_lt_of_le hb2 E.le; replace H := H.trans E; replace ot0 := owns_ext ot0 E; clear E)
      | (go_at_call 35; refine (hS.out x0 _ _ _ (SlT.of_owns enc4_len e0.out ot0)).mono ?_; rintro e w1 ⟨rfl, E⟩; have zHw2 := H.le; replace e1a := (E.cells _ 0 hb1).trans e1a; replace e1b := (E.cells _ 1 hb1).trans e1b; replace e2a := (E.cells _ 0 hb2).trans e2a; replace e2b := (E.cells _ 1 hb2).trans e2b; replace hb1 := Nat.lt_of_lt_of_le hb1 E.le; replace hb2 := Nat.lt_of_lt_of_le hb2 E.le; replace H := H.trans E; clear E))
  have E := H
  clear H e1a e1b e2a e2b hb1 hb2
  replace G := G.trans E
  replace F := F.trans E
  clear E ot0
  have S := Ext.refl w1
  go_wp2_with fail
  refine (toRectS_any _ n0 _ l0 _ (h0.ext F) (by omega)).mono ?_
  rintro e w3 ⟨x0q, rfl, ox0, E⟩
  replace F := F.trans E
  replace G := G.trans E
  replace S := S.trans E
  have zx0 := E.le
  clear E
  go_wp2_with fail
  have gc := (gb1.out.ext G).cells
  have e1a := gc 0
  have e1b := gc 1
  simp only [List.getElem?_cons_zero, List.getElem?_cons_succ] at e1a e1b
  have hb1 := (gb1.out.ext G).lt
  clear gc
  have gc := (gb2.out.ext G).cells
  have e2a := gc 0
  have e2b := gc 1
  simp only [List.getElem?_cons_zero, List.getElem?_cons_succ] at e2a e2b
  have hb2 := (gb2.out.ext G).lt
  clear gc
  have H : Ext w3 _ := (Ext.refl w3).drew
  go_region_held3 (fun w' => w'.cell? ⟨w.heap.size, 0, none⟩ = some (.int .i64 a1.a) ∧ w'.cell? ⟨w.heap.size, 1, none⟩ = some (.int .i64 a1.b) ∧ w'.cell? ⟨w.heap.size + 1, 0, none⟩ = some (.int .i64 a2.a) ∧ w'.cell? ⟨w.heap.size + 1, 1, none⟩ = some (.int .i64 a2.b))
    (exact ⟨e1a, e1b, e2a, e2b⟩)
    (first
      | (go_at_call 36; refine (toPoint_any _ _ _).mono ?_; rintro e w5b ⟨rfl, E⟩; replace e1a := (E.cells _ 0 hb1).trans e1a; replace e1b := (E.cells _ 1 hb1).trans e1b; replace e2a := (E.cells _ 0 hb2).trans e2a; replace e2b := (E.cells _ 1 hb2).trans e2b; replace hb1 := Nat.lt_of_lt_of_le hb1 E.le; replace hb2 := Nat.lt_of_lt_of_le hb2 E.le; replace H := H.trans E; clear E)
      | (go_at_call 18; refine (hI.out x0 _ _ _ (SlT.of_owns enc4_len e0.out (owns_ext ox0 H))).mono ?_; rintro e w4 ⟨rfl, E⟩; have zHw5 := H.le; replace e1a := (E.cells _ 0 hb1).trans e1a; replace e1b := (E.cells _ 1 hb1).trans e1b; replace e2a := (E.cells _ 0 hb2).trans e2a; replace e2b := (E.cells _ 1 hb2).trans e2b; replace hb1 := Nat.lt_of_lt_of_le hb1 E.le; replace hb2 := Nat.lt_of_lt_of_le hb2 E.le; replace H := H.trans E; clear E))
  have E := H
  clear H e1a e1b e2a e2b hb1 hb2
  have zI := E.le
  have zo0 := owns_ge ox0
  replace F := F.trans E
  replace G := G.trans E
  replace S := S.trans E
  replace ox0 := owns_ext ox0 E
  clear E
  go_wp2_with fail
  refine (toRectS_any _ n0 _ l0 _ (h0.ext F) (by omega)).mono ?_
  rintro e w6 ⟨y0q, rfl, oy0, E⟩
  replace F := F.trans E
  replace G := G.trans E
  replace S := S.trans E
  replace ox0 := owns_ext ox0 E
  clear E
  go_wp2_with fail
  refine (eqRectS_same _ _ _ _ _ l0 _ (SlT.of_owns enc4_len e0.out ox0) (SlT.of_owns enc4_len e0.out oy0) (by omega)).mono ?_
  rintro e w7 ⟨rfl, E⟩
  replace F := F.trans E
  replace G := G.trans E
  replace S := S.trans E
  replace ox0 := owns_ext ox0 E
  clear E oy0
  go_wp2_with fail
  go_ret
  exact ⟨rfl, F⟩
theorem exactRouteDistance_any (q : Option Addr) (n c : Nat) (l : List Q4) (a b : Q2) (w : World) (h : SlT enc4 4 w q n l) (hm : n ≤ maxLen) :
    Calls Try.prog 7 #[.slice q n c, .agg #[.int .i64 a.a, .int .i64 a.b], .agg #[.int .i64 b.a, .int .i64 b.b]] w fun e w' => e = .returned (.bool true) ∧ Ext w w' :=
  lawRouteDistance q n c l a b (rdL l a b) w h hm (hid fun hn W q c hW => specRouteDistance_any q n c l a b W hW hn) (hid fun hn W q c hW => RouteDistance_any q n c l a b W hW hn)
end Go.Proofs.Ythdilndfcdpeiaa
