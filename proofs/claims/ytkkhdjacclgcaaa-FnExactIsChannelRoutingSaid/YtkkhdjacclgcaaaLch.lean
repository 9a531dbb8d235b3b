/- The walk of the law FnExactChannelDensity: it returns true at every channel. No condition. -/
import Derived.Test.YtkkhdjacclgcaaaDen
import Derived.Test.YtkkhdjacclgcaaaOpn
import Derived.Deep.RegionHeld3
namespace Go.Proofs.Ytkkhdjacclgcaaa
open Go.RowKit

theorem IsCh.of_owns {w : World} {base : Nat} {e : TypeId} {q1 q2 : Option Addr} {n m : Nat} {t b : List Int} (hn : n ≤ 1048576) (hm : m ≤ 1048576) (lt : t.length = n) (lb : b.length = m)
    (o1 : w.ownsRow base e 1 (.slice q1 n n) n (t.flatMap enc1)) (o2 : w.ownsRow base e 1 (.slice q2 m m) m (b.flatMap enc1)) : IsCh w q1 q2 n m n m t b := by
  refine ⟨SlT.of_owns enc1_len lt o1, SlT.of_owns enc1_len lb o2, hn, hm, ?_, ?_⟩
  · intro h; subst h
    rcases Joins.ownsRow_forms o1 with ⟨h, _⟩ | ⟨g, c, h⟩
    · cases h; exact ⟨rfl, rfl⟩
    · cases h
  · intro h; subst h
    rcases Joins.ownsRow_forms o2 with ⟨h, _⟩ | ⟨g, c, h⟩
    · cases h; exact ⟨rfl, rfl⟩
    · cases h
set_option maxRecDepth 100000 in
set_option maxHeartbeats 1000000 in
theorem exactDensity_any (p1 p2 : Option Addr) (n m c1 c2 : Nat) (t b : List Int) (w : World) (h1 : SlT enc1 1 w p1 n t) (h2 : SlT enc1 1 w p2 m b) (hn : n ≤ maxLen) (hm : m ≤ maxLen) :
    Calls Try.prog 6 #[.agg #[.slice p1 n c1, .slice p2 m c2]] w fun e w' => e = .returned (.bool true) ∧ Ext w w' := by
  have l1 := hid h1.length
  have l2 := hid h2.length
  unfold maxLen at hn hm
  by_cases hs : n + m ≤ 1048576
  · go_enter Try.func6, Try.ntmps6
    go_wp2_with fail
    generalize hW : w.alloc _ = W0
    obtain ⟨E0, z0, b0⟩ := boxes1 hW
    clear hW z0
    have gb := hid (show Blk W0 _ [_, _] _ from b0)
    clear b0
    refine (szChannel_any _ _ _ _ _ _ _ _ (by omega) (by omega) (by omega) (by omega)).mono ?_
    rintro e w1 ⟨rfl, E1⟩
    rw [lessOr, if_neg (by omega)]
    have g1 := (gb.out.ext E1).cells
    go_wp2_with fail
    refine (toChannel_any _ _ n m _ _ t b _ (h1.ext (E0.trans E1)) (h2.ext (E0.trans E1)) (by omega) (by omega)).mono ?_
    rintro e w2 ⟨q1, q2, rfl, o1, o2, _, E2⟩
    have C2 := IsCh.of_owns (by omega) (by omega) l1.out l2.out o1 o2
    clear o1 o2 g1
    go_wp2_with fail
    refine (specDensity_any _ _ _ _ _ _ t b _ C2).mono ?_
    rintro e w3 ⟨rfl, E3⟩
    have E123 := E1.trans (E2.trans E3)
    have g3 := (gb.out.ext E123).cells
    go_wp2_with fail
    refine (toChannel_any _ _ n m _ _ t b _ (h1.ext (E0.trans E123)) (h2.ext (E0.trans E123)) (by omega) (by omega)).mono ?_
    rintro e w4 ⟨q3, q4, rfl, o3, o4, _, E4⟩
    have C4 := IsCh.of_owns (by omega) (by omega) l1.out l2.out o3 o4
    clear o3 o4 g3
    have F4 := E123.trans E4
    go_wp2_with fail
    generalize hW : w4.alloc _ = W5
    obtain ⟨E5, z5, b5⟩ := boxes1 hW
    clear hW z5
    have gc := hid (show Blk W5 _ [_, _] _ from b5)
    clear b5
    refine (ChannelDensity_any _ _ _ _ _ _ t b _ (C4.ext E5)).mono ?_
    rintro e w6 ⟨rfl, E6⟩
    have F6 := F4.trans (E5.trans E6)
    have g6 := (gb.out.ext F6).cells
    have k6 := (gc.out.ext E6).cells
    go_wp2_with fail
    have x0 := g6 0
    have x1 := g6 1
    have y0 := k6 0
    have y1 := k6 1
    simp only [List.getElem?_cons_zero, List.getElem?_cons_succ] at x0 x1 y0 y1
    have C6 := (C4.ext E5).ext E6
    have hb1 : w.heap.size < w6.heap.size := (gb.out.ext F6).lt
    have hb2 : w4.heap.size < w6.heap.size := (gc.out.ext E6).lt
    clear g6 k6
    go_region_held3 (fun w' => w'.cell? ⟨w.heap.size, 0, none⟩ = some (.slice p1 n c1) ∧ w'.cell? ⟨w.heap.size, 1, none⟩ = some (.slice p2 m c2) ∧ w'.cell? ⟨w4.heap.size, 0, none⟩ = some (.slice q3 n n) ∧ w'.cell? ⟨w4.heap.size, 1, none⟩ = some (.slice q4 m m))
      (first | exact ⟨x0, x1, y0, y1⟩ | exact ⟨(E7.cells _ _ hb1).trans x0, (E7.cells _ _ hb1).trans x1, (E7.cells _ _ hb2).trans y0, (E7.cells _ _ hb2).trans y1⟩ | exact ⟨((E7.trans E8).cells _ _ hb1).trans x0, ((E7.trans E8).cells _ _ hb1).trans x1, ((E7.trans E8).cells _ _ hb2).trans y0, ((E7.trans E8).cells _ _ hb2).trans y1⟩)
      (first
        | (go_at_call 25; refine (toChannel_any p1 p2 n m c1 c2 t b _ (h1.ext (E0.trans F6).drew) (h2.ext (E0.trans F6).drew) (by omega) (by omega)).mono ?_; rintro e w7 ⟨q5, q6, rfl, o5, o6, _, E7⟩)
        | (go_at_call 27; refine (eqChannel_same _ _ _ _ n m _ _ _ _ t b _ ((C6.top.ext (Ext.refl _).drew).ext E7) ((C6.bot.ext (Ext.refl _).drew).ext E7) (SlT.of_owns enc1_len l1.out o5) (SlT.of_owns enc1_len l2.out o6) (by omega) (by omega)).mono ?_; rintro e w8 ⟨rfl, E8⟩))
    go_wp2
    go_ret
    exact ⟨rfl, E0.trans ((F6.trans ((Ext.refl _).drew)).trans (E7.trans E8))⟩
  · go_enter Try.func6, Try.ntmps6
    go_wp2_with fail
    generalize hW : w.alloc _ = W0
    obtain ⟨E0, z0, b0⟩ := boxes1 hW
    clear hW z0 b0
    refine (szChannel_any _ _ _ _ _ _ _ _ (by omega) (by omega) (by omega) (by omega)).mono ?_
    rintro e w1 ⟨rfl, E1⟩
    rw [lessOr, if_pos (by omega)]
    go_wp2_with fail
    go_ret
    exact ⟨rfl, E0.trans E1⟩
end Go.Proofs.Ytkkhdjacclgcaaa
