/- The law FnExactRouteChannel: the program's RouteChannel returns what the reference's returns. Condition: rows of less than 2^62 columns. -/
import Derived.Test.YtiljojpnbpdaeaaRcm
import Derived.Test.YtiljojpnbpdaeaaRcl
import Derived.Test.YtiljojpnbpdaeaaLcs
import Derived.Deep.RegionHeld3
namespace Go.Proofs.Ytiljojpnbpdaeaa
open Go.RowKit

def rcT (t b : List Int) : List Int := if chOk t b = true then (rcR t b).getD [] else []
def rcC (t b : List Int) : Int := if chOk t b = true then (if (rcR t b).isSome = true then 0 else 6) else 1
def Rc1 (t b : List Int) (w : World) (e : Ending) (w' : World) : Prop := ∃ (q : Option Addr) (c : Nat), e = .returned (.tuple #[.slice q (rcT t b).length c, .int .i64 (rcC t b)]) ∧ w'.ownsRow w.heap.size 2 1 (.slice q (rcT t b).length c) (rcT t b).length ((rcT t b).flatMap enc1) ∧ Ext w w'
theorem Rc.one {t b : List Int} {w w' : World} {e : Ending} (h : Rc t b w e w') : Rc1 t b w e w' := by
  rcases h with ⟨h1, rfl, hE⟩ | ⟨h1, h2, rfl, hE⟩ | ⟨R, q, c, h1, h2, rfl, ho, hE⟩
  · rw [Rc1, rcT, rcC, if_neg (by rw [h1]; exact Bool.false_ne_true), if_neg (by rw [h1]; exact Bool.false_ne_true)]
    exact ⟨none, 0, rfl, World.ownsRow_nil _ _ _ _, hE⟩
  · rw [Rc1, rcT, rcC, if_pos h1, if_pos h1, h2]
    exact ⟨none, 0, rfl, World.ownsRow_nil _ _ _ _, hE⟩
  · rw [Rc1, rcT, rcC, if_pos h1, if_pos h1, h2]
    exact ⟨q, c, rfl, ho, hE⟩
theorem rcT_len (t b : List Int) : (rcT t b).length ≤ 12 := by
  rw [rcT]
  split
  · cases h : rcR t b with
    | none => simp
    | some R =>
      have := rcR_len h
      have := spansK_len t b t.length 12
      simp only [Option.getD_some]
      unfold spansL at *
      omega
  · simp
theorem specRC_any (p1 p2 : Option Addr) (n m c1 c2 : Nat) (t b : List Int) (w : World) (h : IsCh w p1 p2 n m c1 c2 t b) :
    Calls Try.prog 8 #[.agg #[.slice p1 n c1, .slice p2 m c2]] w (Rc1 t b w) := (specRouteChannel_any p1 p2 n m c1 c2 t b w h).mono fun _ _ h => Rc.one h
theorem RC_any (p1 p2 : Option Addr) (n m c1 c2 : Nat) (t b : List Int) (w : World) (h : IsCh w p1 p2 n m c1 c2 t b) :
    Calls Try.prog 10 #[.agg #[.slice p1 n c1, .slice p2 m c2]] w (Rc1 t b w) := (RouteChannel_any p1 p2 n m c1 c2 t b w h).mono fun _ _ h => Rc.one h
set_option maxRecDepth 100000 in
set_option maxHeartbeats 2000000 in
theorem exactRouteChannel_any (p1 p2 : Option Addr) (n m c1 c2 : Nat) (t b : List Int) (w : World) (h1 : SlT enc1 1 w p1 n t) (h2 : SlT enc1 1 w p2 m b) (hn : n ≤ maxLen) (hm : m ≤ maxLen) :
    Calls Try.prog 3 #[.agg #[.slice p1 n c1, .slice p2 m c2]] w fun e w' => e = .returned (.bool true) ∧ Ext w w' := by
  have l1 := hid h1.length
  have l2 := hid h2.length
  unfold maxLen at hn hm
  by_cases hs : n + m ≤ 1048576
  · have hNl := rcT_len t b
    go_enter Try.func3, Try.ntmps3
    go_wp2_with fail
    generalize hW : w.alloc _ = W0
    obtain ⟨E0, z0, b0⟩ := boxes1 hW
    clear hW z0
    have gb := hid (show Blk W0 _ [_, _] _ from b0)
    clear b0
    refine (szChannel_any _ _ _ _ _ _ _ _ (by omega) (by omega) (by omega) (by omega)).mono ?_
    rintro e w1 ⟨rfl, E1⟩
    rw [lessOr, if_neg (by omega)]
    have g1 := (gb.out.ext E1).cells
    go_wp2_with fail
    refine (toChannel_any _ _ n m _ _ t b _ (h1.ext (E0.trans E1)) (h2.ext (E0.trans E1)) (by omega) (by omega)).mono ?_
    rintro e w2 ⟨q1, q2, rfl, o1, o2, _, E2⟩
    have C2 := IsCh.of_owns (by omega) (by omega) l1.out l2.out o1 o2
    clear o1 o2 g1
    go_wp2_with fail
    refine (specRC_any _ _ _ _ _ _ t b _ C2).mono ?_
    rintro e w3 ⟨qs, cs, rfl, os, E3⟩
    have ss := SlT.of_owns (l := rcT t b) enc1_len rfl os
    clear os C2
    obtain ⟨N, hN⟩ : ∃ N, N = (rcT t b).length := ⟨_, rfl⟩
    rw [← hN] at ss hNl ⊢
    replace hN := hid hN
    obtain ⟨K, hK⟩ : ∃ K, K = rcC t b := ⟨_, rfl⟩
    rw [← hK]
    replace hK := hid hK
    have E123 := E1.trans (E2.trans E3)
    have g3 := (gb.out.ext E123).cells
    go_wp2_with fail
    refine (toChannel_any _ _ n m _ _ t b _ (h1.ext (E0.trans E123)) (h2.ext (E0.trans E123)) (by omega) (by omega)).mono ?_
    rintro e w4 ⟨q3, q4, rfl, o3, o4, hne, E4⟩
    have C4 := IsCh.of_owns (by omega) (by omega) l1.out l2.out o3 o4
    clear g3
    have F4 := E123.trans E4
    go_wp2_with fail
    generalize hW : w4.alloc _ = W5
    obtain ⟨E5, z5, b5⟩ := boxes1 hW
    clear hW z5
    have gc := hid (show Blk W5 _ [_, _] _ from b5)
    clear b5
    have hcs := RC_any _ _ _ _ _ _ t b _ (C4.ext E5)
    unfold Rc1 at hcs
    rw [← hN.out, ← hK.out] at hcs
    refine hcs.mono ?_
    clear hcs
    rintro e w6 ⟨qg, cg, rfl, og, E6⟩
    have og : w6.ownsRow W5.heap.size 2 1 (.slice qg N cg) N ((rcT t b).flatMap enc1) := og
    have sg := SlT.of_owns (l := rcT t b) enc1_len hN.out.symm og
    have F36 := E4.trans (E5.trans E6)
    go_wp2_with fail
    refine (eqInt64S_same _ _ _ _ _ (rcT t b) _ sg (ss.ext F36) (by omega)).mono ?_
    rintro e w7 ⟨rfl, E7⟩
    have F37 := F36.trans E7
    have F7 := E123.trans F37
    have g7 := (gb.out.ext F7).cells
    have k7 := (gc.out.ext (E6.trans E7)).cells
    go_wp2_with fail
    have x0 := g7 0
    have x1 := g7 1
    have y0 := k7 0
    have y1 := k7 1
    simp only [List.getElem?_cons_zero, List.getElem?_cons_succ] at x0 x1 y0 y1
    have C7 := (C4.ext E5).ext (E6.trans E7)
    have hb1 : w.heap.size < w7.heap.size := (gb.out.ext F7).lt
    have hb2 : w4.heap.size < w7.heap.size := (gc.out.ext (E6.trans E7)).lt
    clear g7 k7
    go_region_held3 (fun w' => w'.cell? ⟨w.heap.size, 0, none⟩ = some (.slice p1 n c1) ∧ w'.cell? ⟨w.heap.size, 1, none⟩ = some (.slice p2 m c2) ∧ w'.cell? ⟨w4.heap.size, 0, none⟩ = some (.slice q3 n n) ∧ w'.cell? ⟨w4.heap.size, 1, none⟩ = some (.slice q4 m m))
      (first | exact ⟨x0, x1, y0, y1⟩ | exact ⟨(E8.cells _ _ hb1).trans x0, (E8.cells _ _ hb1).trans x1, (E8.cells _ _ hb2).trans y0, (E8.cells _ _ hb2).trans y1⟩ | exact ⟨((E8.trans E9).cells _ _ hb1).trans x0, ((E8.trans E9).cells _ _ hb1).trans x1, ((E8.trans E9).cells _ _ hb2).trans y0, ((E8.trans E9).cells _ _ hb2).trans y1⟩)
      (first
        | (go_at_call 9; refine (toChannel_any p1 p2 n m c1 c2 t b _ (h1.ext (E0.trans F7).drew) (h2.ext (E0.trans F7).drew) (by omega) (by omega)).mono ?_; rintro e w8 ⟨q5, q6, rfl, o5, o6, _, E8⟩)
        | (go_at_call 12; refine (eqChannel_same _ _ _ _ n m _ _ _ _ t b _ ((C7.top.ext (Ext.refl _).drew).ext E8) ((C7.bot.ext (Ext.refl _).drew).ext E8) (SlT.of_owns enc1_len l1.out o5) (SlT.of_owns enc1_len l2.out o6) (by omega) (by omega)).mono ?_; rintro e w9 ⟨rfl, E9⟩))
    have E79 : Ext w7 w9 := (Ext.refl w7).drew.trans (E8.trans E9)
    clear x0 x1 y0 y1 hb1 hb2 E8 E9 o5 o6 C7
    have k9 := (gc.out.ext ((E6.trans E7).trans E79)).cells
    have F39 := F37.trans E79
    have F49 := (E5.trans E6).trans (E7.trans E79)
    go_wp2_with fail
    refine (markChannel_any q3 q4 n m n m 1 w3.heap.size _ _ _ _ (owns_ext o3 F49) (owns_ext o4 F49) hne (by omega) (by omega) (by omega) (by omega)).mono ?_
    rintro e w10 ⟨rfl, M10⟩
    clear k9
    have ge3 := owns_ge o3
    have ge4 := owns_ge o4
    have F310 : Ext w3 w10 := F39.then M10 (fun k hk => by
      rcases List.mem_append.1 hk with hk | hk
      · exact (ge3 k hk).1
      · exact (ge4 k hk).1)
    have og9 := owns_ext og (E7.trans E79)
    have og10 := M10.grownBy (fun g hg hh => by
      have h5 := (og.lt g hg).1
      have := E5.le
      rcases List.mem_append.1 hh with hk | hk
      · have := (ge3 g hk).2; omega
      · have := (ge4 g hk).2; omega) og9
    have sg10 := SlT.of_owns (l := rcT t b) enc1_len hN.out.symm og10
    have hkp : ¬ ((1 : Int) + n + m < 0) := by omega
    go_wp2_with fail
    refine (eqInt64S_same _ _ _ _ _ (rcT t b) _ sg10 (ss.ext F310) (by omega)).mono ?_
    rintro e w11 ⟨rfl, E11⟩
    have F311 := F310.trans E11
    have og11 := owns_ext og10 E11
    go_wp2_with fail
    refine (markInt64S_any qg N cg 1 W5.heap.size _ _ _ og11 (by omega) (by omega) (by omega)).mono ?_
    rintro e w12 ⟨rfl, og12, M12⟩
    have ge5 := owns_ge og
    have F312 : Ext w3 w12 := F311.then M12 (fun k hk => by
      have := (ge5 k hk).1
      have := (E4.trans E5).le
      omega)
    go_wp2_with fail
    refine (heldInt64S_any qg N cg 1 W5.heap.size _ _ og12 (by omega) (by omega) (by omega)).mono ?_
    rintro e w13 ⟨rfl, rfl⟩
    have g13 := (gb.out.ext (E123.trans F312)).cells
    go_wp2_with fail
    refine (toChannel_any _ _ n m _ _ t b _ (h1.ext (E0.trans (E123.trans F312))) (h2.ext (E0.trans (E123.trans F312))) (by omega) (by omega)).mono ?_
    rintro e w14 ⟨q7, q8, rfl, o7, o8, _, E14⟩
    have C14 := IsCh.of_owns (by omega) (by omega) l1.out l2.out o7 o8
    clear o7 o8 g13
    go_wp2_with fail
    have hcs := RC_any _ _ _ _ _ _ t b _ C14
    unfold Rc1 at hcs
    rw [← hN.out, ← hK.out] at hcs
    refine hcs.mono ?_
    clear hcs
    rintro e w15 ⟨qh, ch, rfl, oh, E15⟩
    have oh : w15.ownsRow w14.heap.size 2 1 (.slice qh N ch) N ((rcT t b).flatMap enc1) := oh
    have sh := SlT.of_owns (l := rcT t b) enc1_len hN.out.symm oh
    have F315 := F312.trans (E14.trans E15)
    go_wp2_with fail
    refine (eqInt64S_same _ _ _ _ _ (rcT t b) _ sh (ss.ext F315) (by omega)).mono ?_
    rintro e w16 ⟨rfl, E16⟩
    go_wp2_with fail
    refine (heldInt64S_any qg N cg 1 W5.heap.size _ _ (owns_ext og12 ((E14.trans E15).trans E16)) (by omega) (by omega) (by omega)).mono ?_
    rintro e w17 ⟨rfl, rfl⟩
    go_wp2_with fail
    go_ret
    exact ⟨rfl, E0.trans (E123.trans (F315.trans E16))⟩
  · go_enter Try.func3, Try.ntmps3
    go_wp2_with fail
    generalize hW : w.alloc _ = W0
    obtain ⟨E0, z0, b0⟩ := boxes1 hW
    clear hW z0 b0
    refine (szChannel_any _ _ _ _ _ _ _ _ (by omega) (by omega) (by omega) (by omega)).mono ?_
    rintro e w1 ⟨rfl, E1⟩
    rw [lessOr, if_pos (by omega)]
    go_wp2_with fail
    go_ret
    exact ⟨rfl, E0.trans E1⟩
end Go.Proofs.Ytiljojpnbpdaeaa
