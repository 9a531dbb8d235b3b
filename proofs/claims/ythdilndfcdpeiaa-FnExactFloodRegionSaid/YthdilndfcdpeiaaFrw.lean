/- The law FnExactFloodRegion over the contracts of both sides. Condition: at most 2^20 rectangles. -/
import Derived.Test.YthdilndfcdpeiaaFrs
import Derived.Test.YthdilndfcdpeiaaIsd
import Derived.Deep.RegionHeld3
namespace Go.Proofs.Ythdilndfcdpeiaa
open Go.RowKit

set_option maxRecDepth 100000 in
set_option maxHeartbeats 4000000 in
theorem lawFloodRegion (q0 : Option Addr) (n0 c0 : Nat) (l0 : List Q4) (a1 : Q2) (R0 : List Q4) (N0 : Nat) (w : World) (h0 : SlT enc4 4 w q0 n0 l0) (m0 : n0 ≤ maxLen) (hR0 : R0.length = N0) (hN0 : N0 ≤ 1048576)
    (hS : Hid (n0 ≤ 1048576 → ∀ (W : World) (q0 : Option Addr) (c0 : Nat), SlT enc4 4 W q0 n0 l0 → Calls Try.prog 41 #[.slice q0 n0 c0, .agg #[.int .i64 a1.a, .int .i64 a1.b]] W fun e w' => ∃ p0 d0, e = .returned (.slice p0 N0 d0) ∧ w'.ownsRow W.heap.size 66 4 (.slice p0 N0 d0) N0 (R0.flatMap enc4) ∧ Ext W w'))
    (hI : Hid (n0 ≤ 1048576 → ∀ (W : World) (q0 : Option Addr) (c0 : Nat), SlT enc4 4 W q0 n0 l0 → Calls Try.prog 38 #[.slice q0 n0 c0, .agg #[.int .i64 a1.a, .int .i64 a1.b]] W fun e w' => ∃ p0 d0, e = .returned (.slice p0 N0 d0) ∧ w'.ownsRow W.heap.size 66 4 (.slice p0 N0 d0) N0 (R0.flatMap enc4) ∧ Ext W w')) :
    Calls Try.prog 9 #[.slice q0 n0 c0, .agg #[.int .i64 a1.a, .int .i64 a1.b]] w fun e w' => e = .returned (.bool true) ∧ Ext w w' := by
  have e0 := hid h0.length
  unfold maxLen at m0
  replace hR0 := hid hR0
  by_cases x0 : 1048576 < (n0 : Int)
  · go_enter Try.func9, Try.ntmps9
    go_wp2_with fail
    generalize hW : w.alloc _ = W0
    obtain ⟨E0, z0, bb1⟩ := boxes1 hW
    clear hW
    have gb1 := hid (show Blk W0 (w.heap.size) [.int .i64 a1.a, .int .i64 a1.b] _ from bb1)
    clear bb1
    replace z0 := hid z0
    refine (szRectS_any q0 n0 c0 _ _ (by omega) (by omega) (by omega)).mono ?_
    rintro e w' ⟨rfl, rfl⟩
    rw [if_pos (by omega)]
    go_wp2_with fail
    go_ret
    exact ⟨rfl, E0⟩
  go_enter Try.func9, Try.ntmps9
  go_wp2_with fail
  generalize hW : w.alloc _ = W0
  obtain ⟨E0, z0, bb1⟩ := boxes1 hW
  clear hW
  have gb1 := hid (show Blk W0 (w.heap.size) [.int .i64 a1.a, .int .i64 a1.b] _ from bb1)
  clear bb1
  replace z0 := hid z0
  refine (szRectS_any q0 n0 c0 _ _ (by omega) (by omega) (by omega)).mono ?_
  rintro e w' ⟨rfl, rfl⟩
  rw [if_neg (by omega)]
  have y0 := x0
  replace x0 : n0 ≤ 1048576 := by omega
  clear y0
  have F := E0
  have G := Ext.refl W0
  go_wp2_with fail
  have gc := (gb1.out.ext G).cells
  have e1a := gc 0
  have e1b := gc 1
  simp only [List.getElem?_cons_zero, List.getElem?_cons_succ] at e1a e1b
  have hb1 := (gb1.out.ext G).lt
  clear gc
  have H : Ext W0 _ := (Ext.refl W0).drew
  go_region_held3 (fun w' => w'.cell? ⟨w.heap.size, 0, none⟩ = some (.int .i64 a1.a) ∧ w'.cell? ⟨w.heap.size, 1, none⟩ = some (.int .i64 a1.b))
    (exact ⟨e1a, e1b⟩)
    (first
      | (go_at_call 22; refine (toRectS_any q0 n0 c0 l0 _ (h0.ext (F.trans H)) (by omega)).mono ?_; rintro e w2a ⟨t0, rfl, ot0, E⟩; replace e1a := (E.cells _ 0 hb1).trans e1a; replace e1b := (E.cells _ 1 hb1).trans e1b; replace hb1 := Nat.lt_of_lt_of_le hb1 E.le; replace H := H.trans E; clear E)
      | (go_at_call 36; refine (toPoint_any _ _ _).mono ?_; rintro e w2b ⟨rfl, E⟩; replace e1a := (E.cells _ 0 hb1).trans e1a; replace e1b := (E.cells _ 1 hb1).trans e1b; replace hb1 := Nat.lt_of_lt_of_le hb1 E.le; replace H := H.trans E; replace ot0 := owns_ext ot0 E; clear E)
      | (go_at_call 41; refine (hS.out x0 _ _ _ (SlT.of_owns enc4_len e0.out ot0)).mono ?_; rintro e w1 ⟨u0, v0, rfl, os0, E⟩; have zHw2 := H.le; replace e1a := (E.cells _ 0 hb1).trans e1a; replace e1b := (E.cells _ 1 hb1).trans e1b; replace hb1 := Nat.lt_of_lt_of_le hb1 E.le; replace H := H.trans E; clear E))
  have E := H
  clear H e1a e1b hb1
  replace G := G.trans E
  replace F := F.trans E
  clear E ot0
  have ss0 := SlT.of_owns (l := R0) enc4_len hR0.out os0
  clear os0
  have F0 := F
  have G0 := G
  have S := Ext.refl w1
  go_wp2_with fail
  refine (toRectS_any _ n0 _ l0 _ (h0.ext F) (by omega)).mono ?_
  rintro e w3 ⟨x0q, rfl, ox0, E⟩
  replace F := F.trans E
  replace G := G.trans E
  replace S := S.trans E
  have zx0 := E.le
  clear E
  have gc := (gb1.out.ext G).cells
  have e1a := gc 0
  have e1b := gc 1
  simp only [List.getElem?_cons_zero, List.getElem?_cons_succ] at e1a e1b
  have hb1 := (gb1.out.ext G).lt
  clear gc
  have H : Ext w3 _ := Ext.refl w3
  go_wp2_with fail
  refine (toPoint_any _ _ _).mono ?_
  rintro e w5b ⟨rfl, E⟩
  replace e1a := (E.cells _ 0 hb1).trans e1a
  replace e1b := (E.cells _ 1 hb1).trans e1b
  replace hb1 := Nat.lt_of_lt_of_le hb1 E.le
  replace H := H.trans E
  clear E
  go_wp2_with fail
  refine (hI.out x0 _ _ _ (SlT.of_owns enc4_len e0.out (owns_ext ox0 H))).mono ?_
  rintro e w4 ⟨g0, k0, rfl, og0, E⟩
  have zHw5 := H.le
  replace e1a := (E.cells _ 0 hb1).trans e1a
  replace e1b := (E.cells _ 1 hb1).trans e1b
  replace hb1 := Nat.lt_of_lt_of_le hb1 E.le
  replace H := H.trans E
  clear E
  have E := H
  clear H e1a e1b hb1
  have zI := E.le
  have zo0 := owns_ge ox0
  replace F := F.trans E
  replace G := G.trans E
  replace S := S.trans E
  replace ox0 := owns_ext ox0 E
  clear E
  have zg0 := owns_ge og0
  go_wp2_with fail
  refine (eqRectS_same _ _ _ _ _ R0 _ (SlT.of_owns (l := R0) enc4_len hR0.out og0) (ss0.ext S) (by omega)).mono ?_
  rintro e w6 ⟨rfl, E⟩
  replace F := F.trans E
  replace G := G.trans E
  replace S := S.trans E
  replace ox0 := owns_ext ox0 E
  replace og0 := owns_ext og0 E
  clear E
  go_wp2_with fail
  refine (toRectS_any _ n0 _ l0 _ (h0.ext F) (by omega)).mono ?_
  rintro e w7 ⟨y0q, rfl, oy0, E⟩
  replace F := F.trans E
  replace G := G.trans E
  replace S := S.trans E
  replace ox0 := owns_ext ox0 E
  replace og0 := owns_ext og0 E
  clear E
  go_wp2_with fail
  refine (eqRectS_same _ _ _ _ _ l0 _ (SlT.of_owns enc4_len e0.out ox0) (SlT.of_owns enc4_len e0.out oy0) (by omega)).mono ?_
  rintro e w8 ⟨rfl, E⟩
  replace F := F.trans E
  replace G := G.trans E
  replace S := S.trans E
  replace ox0 := owns_ext ox0 E
  replace og0 := owns_ext og0 E
  clear E oy0
  go_wp2_with fail
  refine (markRectS_any x0q n0 n0 _ _ _ _ _ ox0 (by omega) (by omega) (by omega)).mono ?_
  rintro e w9 ⟨rfl, ox0m, M⟩
  clear ox0 ox0m
  have S2 := S.then M (fun k hk => by have := (zo0 k hk).1; omega)
  replace F := F0.trans S2
  replace G := G0.trans S2
  replace og0 := M.grownBy (fun g hg hh => by have h5 := (og0.lt g hg).1; have h6 := (zo0 g hh).2; omega) og0
  replace S := S2
  clear S2 M
  have hkp : ¬ ((1 : Int) + n0 * 4 < 0) := by omega
  go_wp2_with fail
  refine (eqRectS_same _ _ _ _ _ R0 _ (SlT.of_owns (l := R0) enc4_len hR0.out og0) (ss0.ext S) (by omega)).mono ?_
  rintro e w10 ⟨rfl, E⟩
  replace F := F.trans E
  replace G := G.trans E
  replace S := S.trans E
  replace og0 := owns_ext og0 E
  clear E
  go_wp2_with fail
  refine (markRectS_any g0 N0 k0 _ _ _ _ _ og0 (by omega) (by omega) (by omega)).mono ?_
  rintro e w11 ⟨rfl, om0, M⟩
  have S2 := S.then M (fun k hk => by have := (zg0 k hk).1; omega)
  replace F := F0.trans S2
  replace G := G0.trans S2
  replace S := S2
  clear S2 M
  have hq0 : ¬ ((1 : Int) + (N0 : Int) * 4 < 0) := by omega
  go_wp2_with fail
  refine (heldRectS_any g0 N0 k0 _ _ _ _ om0 (by omega) (by omega) (by omega)).mono ?_
  rintro e w' ⟨rfl, rfl⟩
  go_wp2_with fail
  have gc := (gb1.out.ext G).cells
  have e1a := gc 0
  have e1b := gc 1
  simp only [List.getElem?_cons_zero, List.getElem?_cons_succ] at e1a e1b
  have hb1 := (gb1.out.ext G).lt
  clear gc
  have H : Ext w11 _ := (Ext.refl w11).drew
  go_region_held3 (fun w' => w'.cell? ⟨w.heap.size, 0, none⟩ = some (.int .i64 a1.a) ∧ w'.cell? ⟨w.heap.size, 1, none⟩ = some (.int .i64 a1.b))
    (exact ⟨e1a, e1b⟩)
    (first
      | (go_at_call 22; refine (toRectS_any q0 n0 c0 l0 _ (h0.ext (F.trans H)) (by omega)).mono ?_; rintro e w13a ⟨r0, rfl, or0, E⟩; replace e1a := (E.cells _ 0 hb1).trans e1a; replace e1b := (E.cells _ 1 hb1).trans e1b; replace hb1 := Nat.lt_of_lt_of_le hb1 E.le; replace H := H.trans E; clear E)
      | (go_at_call 36; refine (toPoint_any _ _ _).mono ?_; rintro e w13b ⟨rfl, E⟩; replace e1a := (E.cells _ 0 hb1).trans e1a; replace e1b := (E.cells _ 1 hb1).trans e1b; replace hb1 := Nat.lt_of_lt_of_le hb1 E.le; replace H := H.trans E; replace or0 := owns_ext or0 E; clear E)
      | (go_at_call 38; refine (hI.out x0 _ _ _ (SlT.of_owns enc4_len e0.out or0)).mono ?_; rintro e w12 ⟨b0, j0, rfl, oh0, E⟩; have zHw13 := H.le; replace e1a := (E.cells _ 0 hb1).trans e1a; replace e1b := (E.cells _ 1 hb1).trans e1b; replace hb1 := Nat.lt_of_lt_of_le hb1 E.le; replace H := H.trans E; clear E))
  have E := H
  clear H e1a e1b hb1
  replace F := F.trans E
  replace G := G.trans E
  replace S := S.trans E
  replace om0 := owns_ext om0 E
  clear E or0
  go_wp2_with fail
  refine (eqRectS_same _ _ _ _ _ R0 _ (SlT.of_owns (l := R0) enc4_len hR0.out oh0) (ss0.ext S) (by omega)).mono ?_
  rintro e w14 ⟨rfl, E⟩
  replace F := F.trans E
  replace G := G.trans E
  replace S := S.trans E
  replace om0 := owns_ext om0 E
  replace oh0 := owns_ext oh0 E
  clear E
  go_wp2_with fail
  refine (heldRectS_any g0 N0 k0 _ _ _ _ om0 (by omega) (by omega) (by omega)).mono ?_
  rintro e w' ⟨rfl, rfl⟩
  go_wp2_with fail
  go_ret
  exact ⟨rfl, F⟩
theorem exactFloodRegion_any (q : Option Addr) (n c : Nat) (l : List Q4) (a : Q2) (w : World) (h : SlT enc4 4 w q n l) (hm : n ≤ maxLen) :
    Calls Try.prog 9 #[.slice q n c, .agg #[.int .i64 a.a, .int .i64 a.b]] w fun e w' => e = .returned (.bool true) ∧ Ext w w' :=
  lawFloodRegion q n c l a (frL l a) (frL l a).length w h hm rfl (Nat.le_trans (frL_len l a) (by omega)) (hid fun hn W q c hW => specFloodRegion_any q n c l a W hW hn) (hid fun hn W q c hW => FloodRegion_any q n c l a W hW hn)
end Go.Proofs.Ythdilndfcdpeiaa
