/- Contracts of ChannelSpans (program and reference), markChannel; the walk of the law FnExactChannelSpans. No condition at the law. -/
import Derived.Test.YtkkhdjacclgcaaaLch
import Derived.Test.YtkkhdjacclgcaaaMrk
namespace Go.Proofs.Ytkkhdjacclgcaaa
open Go.RowKit

/-- What ChannelSpans answers. -/
def chsR (t b : List Int) : List Q3 := if chOk t b then spansL t b else []
theorem chsR_len (t b : List Int) : (chsR t b).length ≤ 12 := by
  rw [chsR]; split
  · exact spansK_len _ _ _ _
  · simp
set_option maxRecDepth 100000 in
set_option maxHeartbeats 1000000 in
theorem ChannelSpans_any (p1 p2 : Option Addr) (n m c1 c2 : Nat) (t b : List Int) (w : World) (h : IsCh w p1 p2 n m c1 c2 t b) :
    Calls Try.prog 31 #[.agg #[.slice p1 n c1, .slice p2 m c2]] w fun e w' => ∃ q c, e = .returned (.slice q (chsR t b).length c) ∧ Own enc3 3 69 w' w.heap.size (.slice q (chsR t b).length c) (chsR t b) ∧ Ext w w' := by
  have l1 := hid h.top.length
  have l2 := hid h.bot.length
  cases hok : chOk t b with
  | false =>
    have hr : Hid (chsR t b = []) := by show _ = _; rw [chsR, hok]; rfl
    go_enter Try.func31, Try.ntmps31
    go_wp2_with fail
    generalize hW : w.alloc _ = W0
    obtain ⟨E0, z0, b0⟩ := boxes1 hW
    clear hW z0 b0
    refine (validChannel_any _ _ _ _ _ _ t b _ (h.ext E0)).mono ?_
    rw [hok]
    rintro e w1 ⟨rfl, E1⟩
    go_wp2_with fail
    go_ret
    rw [hr.out]
    exact ⟨_, _, rfl, World.ownsRow_nil _ _ _ _, E0.trans E1⟩
  | true =>
    have hl := chOk_len hok
    have hnm : n = m := by have := l1.out; have := l2.out; omega
    subst hnm
    have hn16 : n ≤ 16 := by have := l1.out; omega
    clear hl
    have hr : Hid (chsR t b = spansL t b) := by show _ = _; rw [chsR, hok]; rfl
    rw [hr.out]
    go_enter Try.func31, Try.ntmps31
    go_wp2_with fail
    generalize hW : w.alloc _ = W0
    obtain ⟨E0, z0, b0⟩ := boxes1 hW
    clear hW z0
    refine (validChannel_any _ _ _ _ _ _ t b _ (h.ext E0)).mono ?_
    rw [hok]
    clear hok
    rintro e w1 ⟨rfl, E1⟩
    have g1 := ((show Blk W0 _ [_, _] _ from b0).ext E1).cells
    clear b0
    go_wp2_with fail
    refine (spans_any _ _ n _ _ t b _ (h.top.ext (E0.trans E1)) (h.bot.ext (E0.trans E1)) hn16).mono ?_
    rintro e w2 ⟨q, c, rfl, ho, E2⟩
    clear g1
    go_wp2_with fail
    go_ret
    exact ⟨_, _, rfl, Joins.ownsRow_le ho (E0.trans E1).le, (E0.trans E1).trans E2⟩
set_option maxRecDepth 100000 in
set_option maxHeartbeats 1000000 in
theorem specChannelSpans_any (p1 p2 : Option Addr) (n m c1 c2 : Nat) (t b : List Int) (w : World) (h : IsCh w p1 p2 n m c1 c2 t b) :
    Calls Try.prog 30 #[.agg #[.slice p1 n c1, .slice p2 m c2]] w fun e w' => ∃ q c, e = .returned (.slice q (chsR t b).length c) ∧ Own enc3 3 69 w' w.heap.size (.slice q (chsR t b).length c) (chsR t b) ∧ Ext w w' := by
  have l1 := hid h.top.length
  have l2 := hid h.bot.length
  cases hok : chOk t b with
  | false =>
    have hr : Hid (chsR t b = []) := by show _ = _; rw [chsR, hok]; rfl
    go_enter Try.func30, Try.ntmps30
    go_wp2_with fail
    generalize hW : w.alloc _ = W0
    obtain ⟨E0, z0, b0⟩ := boxes1 hW
    clear hW z0 b0
    refine (l32Channel_any _ _ _ _ _ _ t b _ (h.ext E0)).mono ?_
    rw [hok]
    rintro e w1 ⟨rfl, E1⟩
    go_wp2_with fail
    go_ret
    rw [hr.out]
    exact ⟨_, _, rfl, World.ownsRow_nil _ _ _ _, E0.trans E1⟩
  | true =>
    have hl := chOk_len hok
    have hnm : n = m := by have := l1.out; have := l2.out; omega
    subst hnm
    have hn16 : n ≤ 16 := by have := l1.out; omega
    clear hl
    have hr : Hid (chsR t b = spansL t b) := by show _ = _; rw [chsR, hok]; rfl
    rw [hr.out]
    go_enter Try.func30, Try.ntmps30
    go_wp2_with fail
    generalize hW : w.alloc _ = W0
    obtain ⟨E0, z0, b0⟩ := boxes1 hW
    clear hW z0
    refine (l32Channel_any _ _ _ _ _ _ t b _ (h.ext E0)).mono ?_
    rw [hok]
    clear hok
    rintro e w1 ⟨rfl, E1⟩
    have g1 := ((show Blk W0 _ [_, _] _ from b0).ext E1).cells
    clear b0
    go_wp2_with fail
    refine (l32Spans_any _ _ n _ _ t b _ (h.top.ext (E0.trans E1)) (h.bot.ext (E0.trans E1)) hn16).mono ?_
    rintro e w2 ⟨q, c, rfl, ho, E2⟩
    clear g1
    go_wp2_with fail
    go_ret
    exact ⟨_, _, rfl, Joins.ownsRow_le ho (E0.trans E1).le, (E0.trans E1).trans E2⟩
set_option maxRecDepth 100000 in
set_option maxHeartbeats 1000000 in
theorem markChannel_any (q1 q2 : Option Addr) (n m c1 c2 : Nat) (k : Int) (base : Nat) (e : TypeId) (xs ys : List Value) (w : World) (h1 : w.ownsRow base e 1 (.slice q1 n c1) n xs) (h2 : w.ownsRow base e 1 (.slice q2 m c2) m ys)
    (hne : ∀ a1 a2, q1 = some a1 → q2 = some a2 → a1.block ≠ a2.block) (hn : n ≤ 1048576) (hm : m ≤ 1048576) (hk0 : 0 ≤ k) (hk1 : k ≤ 1048576) :
    Calls Try.prog 33 #[.agg #[.slice q1 n c1, .slice q2 m c2], .int .i64 k] w fun e1 w' => e1 = .returned (.int .i64 (k + n + m)) ∧ Mut w w' (blkOf q1 ++ blkOf q2) := by
  go_enter Try.func33, Try.ntmps33
  go_wp2_with fail
  generalize hW : w.alloc _ = W0
  obtain ⟨E0, z0, b0⟩ := boxes1 hW
  clear hW z0
  refine (markInt64S_any q1 n c1 k base e xs _ (owns_ext h1 E0) hn hk0 (by omega)).mono ?_
  rintro e w1 ⟨rfl, o1, M1⟩
  have g1 := ((show Blk W0 _ [_, _] _ from b0).mut M1 (fun hh => by have := owns_ge h1 _ hh; omega)).cells
  clear b0 o1
  go_wp2_with fail
  refine (markInt64S_any q2 m c2 (k + n) base _ ys _ (M1.grownBy (fun g hg hh => by
    rw [own_blkOf] at hg
    cases q2 with
    | none => cases hg
    | some a2 =>
      obtain ⟨a1, ha1, hb⟩ := mem_blkOf.1 hh
      cases hg
      exact hne a1 a2 ha1 rfl hb) (owns_ext h2 E0)) hm (by omega) (by omega)).mono ?_
  rintro e w2 ⟨rfl, o2, M2⟩
  clear g1 o2
  go_wp2_with fail
  go_ret
  exact ⟨rfl, ((E0.mut (blkOf q1 ++ blkOf q2)).same ((M1.trans M2)))⟩
set_option maxHeartbeats 400000 in
theorem eqNetSpan_same (x : Q3) (w : World) :
    Calls Try.prog 62 #[.agg #[.int .i64 x.a, .int .i64 x.b, .int .i64 x.c], .agg #[.int .i64 x.a, .int .i64 x.b, .int .i64 x.c]] w fun e w' => e = .returned (.bool true) ∧ Ext w w' := by
  go_enter Try.func62, Try.ntmps62
  go_wp2
  go_ret
  exact ⟨rfl, ((Ext.refl _).alloc _).alloc _⟩
set_option maxRecDepth 100000 in
set_option maxHeartbeats 400000 in
theorem eqNetSpanS_same (p1 p2 : Option Addr) (n c1 c2 : Nat) (l : List Q3) (w : World) (h1 : SlT enc3 3 w p1 n l) (h2 : SlT enc3 3 w p2 n l) (hn : n ≤ 1048576) :
    Calls Try.prog 32 #[.slice p1 n c1, .slice p2 n c2] w fun e w' => e = .returned (.bool true) ∧ Ext w w' := by
  have hl := hid h1.length
  go_enter Try.func32, Try.ntmps32
  go_wp2
  go_loopw [5] (fun i wr => ∃ k : Nat, k ≤ n ∧ i = .int .i64 k ∧ Ext w wr) (fun i _ => n - (intOf i).toNat)
  case atStart => exact ⟨0, by omega, rfl, Ext.refl _⟩
  case round =>
    obtain ⟨k, hk, rfl, hE⟩ := hrel
    by_cases hlt : k < n
    · obtain ⟨b, off, x, rfl, hb, hx, c0, c1, c2⟩ := (h1.ext hE).three hlt
      obtain ⟨b', off', x', rfl, hb', hx', d0, d1, d2⟩ := (h2.ext hE).three hlt
      obtain rfl : x = x' := Option.some.inj (hx.out.symm.trans hx'.out)
      have hlt' : (k : Int) < (n : Int) := by omega
      go_wp2_with fail
      refine wp_region_later (by kernel_rfl) (by kernel_rfl) ?_
      repeat (quiet_step ((go_at_call 62; exact later_of (eqNetSpan_same _ _))))
      refine wpQuiet_nil ?_
      rintro w2 ⟨⟨_, h3⟩, rfl⟩
      go_wp2
      go_roundw
      case rel => exact ⟨k + 1, by omega, by go_num, hE.trans h3⟩
      case measure => simp [intOf]; omega
    · go_wp2_with fail
      go_ret
      exact ⟨rfl, hE⟩
set_option maxRecDepth 100000 in
set_option maxHeartbeats 2000000 in
theorem exactSpans_any (p1 p2 : Option Addr) (n m c1 c2 : Nat) (t b : List Int) (w : World) (h1 : SlT enc1 1 w p1 n t) (h2 : SlT enc1 1 w p2 m b) (hn : n ≤ maxLen) (hm : m ≤ maxLen) :
    Calls Try.prog 8 #[.agg #[.slice p1 n c1, .slice p2 m c2]] w fun e w' => e = .returned (.bool true) ∧ Ext w w' := by
  have l1 := hid h1.length
  have l2 := hid h2.length
  unfold maxLen at hn hm
  by_cases hs : n + m ≤ 1048576
  · have hNl := chsR_len t b
    go_enter Try.func8, Try.ntmps8
    go_wp2_with fail
    generalize hW : w.alloc _ = W0
    obtain ⟨E0, z0, b0⟩ := boxes1 hW
    clear hW z0
    have gb := hid (show Blk W0 _ [_, _] _ from b0)
    clear b0
    refine (szChannel_any _ _ _ _ _ _ _ _ (by omega) (by omega) (by omega) (by omega)).mono ?_
    rintro e w1 ⟨rfl, E1⟩
    rw [lessOr, if_neg (by omega)]
    have g1 := (gb.out.ext E1).cells
    go_wp2_with fail
    refine (toChannel_any _ _ n m _ _ t b _ (h1.ext (E0.trans E1)) (h2.ext (E0.trans E1)) (by omega) (by omega)).mono ?_
    rintro e w2 ⟨q1, q2, rfl, o1, o2, _, E2⟩
    have C2 := IsCh.of_owns (by omega) (by omega) l1.out l2.out o1 o2
    clear o1 o2 g1
    go_wp2_with fail
    refine (specChannelSpans_any _ _ _ _ _ _ t b _ C2).mono ?_
    rintro e w3 ⟨qs, cs, rfl, os, E3⟩
    have ss := SlT.of_owns (l := chsR t b) enc3_len rfl os
    clear os C2
    obtain ⟨N, hN⟩ : ∃ N, N = (chsR t b).length := ⟨_, rfl⟩
    rw [← hN] at ss hNl ⊢
    replace hN := hid hN
    have E123 := E1.trans (E2.trans E3)
    have g3 := (gb.out.ext E123).cells
    go_wp2_with fail
    refine (toChannel_any _ _ n m _ _ t b _ (h1.ext (E0.trans E123)) (h2.ext (E0.trans E123)) (by omega) (by omega)).mono ?_
    rintro e w4 ⟨q3, q4, rfl, o3, o4, hne, E4⟩
    have C4 := IsCh.of_owns (by omega) (by omega) l1.out l2.out o3 o4
    clear g3
    have F4 := E123.trans E4
    go_wp2_with fail
    generalize hW : w4.alloc _ = W5
    obtain ⟨E5, z5, b5⟩ := boxes1 hW
    clear hW z5
    have gc := hid (show Blk W5 _ [_, _] _ from b5)
    clear b5
    have hcs := ChannelSpans_any _ _ _ _ _ _ t b _ (C4.ext E5)
    rw [← hN.out] at hcs
    refine hcs.mono ?_
    clear hcs
    rintro e w6 ⟨qg, cg, rfl, og, E6⟩
    have og : w6.ownsRow W5.heap.size 69 3 (.slice qg N cg) N ((chsR t b).flatMap enc3) := by have := og; rw [Own, ← hN.out] at this; exact this
    have sg := SlT.of_owns (l := chsR t b) enc3_len hN.out.symm og
    have F36 := E4.trans (E5.trans E6)
    go_wp2_with fail
    refine (eqNetSpanS_same _ _ _ _ _ (chsR t b) _ sg (ss.ext F36) (by omega)).mono ?_
    rintro e w7 ⟨rfl, E7⟩
    have F37 := F36.trans E7
    have F7 := E123.trans F37
    have g7 := (gb.out.ext F7).cells
    have k7 := (gc.out.ext (E6.trans E7)).cells
    go_wp2_with fail
    have x0 := g7 0
    have x1 := g7 1
    have y0 := k7 0
    have y1 := k7 1
    simp only [List.getElem?_cons_zero, List.getElem?_cons_succ] at x0 x1 y0 y1
    have C7 := (C4.ext E5).ext (E6.trans E7)
    have hb1 : w.heap.size < w7.heap.size := (gb.out.ext F7).lt
    have hb2 : w4.heap.size < w7.heap.size := (gc.out.ext (E6.trans E7)).lt
    clear g7 k7
    go_region_held3 (fun w' => w'.cell? ⟨w.heap.size, 0, none⟩ = some (.slice p1 n c1) ∧ w'.cell? ⟨w.heap.size, 1, none⟩ = some (.slice p2 m c2) ∧ w'.cell? ⟨w4.heap.size, 0, none⟩ = some (.slice q3 n n) ∧ w'.cell? ⟨w4.heap.size, 1, none⟩ = some (.slice q4 m m))
      (first | exact ⟨x0, x1, y0, y1⟩ | exact ⟨(E8.cells _ _ hb1).trans x0, (E8.cells _ _ hb1).trans x1, (E8.cells _ _ hb2).trans y0, (E8.cells _ _ hb2).trans y1⟩ | exact ⟨((E8.trans E9).cells _ _ hb1).trans x0, ((E8.trans E9).cells _ _ hb1).trans x1, ((E8.trans E9).cells _ _ hb2).trans y0, ((E8.trans E9).cells _ _ hb2).trans y1⟩)
      (first
        | (go_at_call 25; refine (toChannel_any p1 p2 n m c1 c2 t b _ (h1.ext (E0.trans F7).drew) (h2.ext (E0.trans F7).drew) (by omega) (by omega)).mono ?_; rintro e w8 ⟨q5, q6, rfl, o5, o6, _, E8⟩)
        | (go_at_call 27; refine (eqChannel_same _ _ _ _ n m _ _ _ _ t b _ ((C7.top.ext (Ext.refl _).drew).ext E8) ((C7.bot.ext (Ext.refl _).drew).ext E8) (SlT.of_owns enc1_len l1.out o5) (SlT.of_owns enc1_len l2.out o6) (by omega) (by omega)).mono ?_; rintro e w9 ⟨rfl, E9⟩))
    have E79 : Ext w7 w9 := (Ext.refl w7).drew.trans (E8.trans E9)
    clear x0 x1 y0 y1 hb1 hb2 E8 E9 o5 o6 C7
    have k9 := (gc.out.ext ((E6.trans E7).trans E79)).cells
    have F39 := F37.trans E79
    have F49 := (E5.trans E6).trans (E7.trans E79)
    go_wp2_with fail
    refine (markChannel_any q3 q4 n m n m 1 w3.heap.size _ _ _ _ (owns_ext o3 F49) (owns_ext o4 F49) hne (by omega) (by omega) (by omega) (by omega)).mono ?_
    rintro e w10 ⟨rfl, M10⟩
    clear k9
    have ge3 := owns_ge o3
    have ge4 := owns_ge o4
    have F310 : Ext w3 w10 := F39.then M10 (fun k hk => by
      rcases List.mem_append.1 hk with hk | hk
      · exact (ge3 k hk).1
      · exact (ge4 k hk).1)
    have og9 := owns_ext og (E7.trans E79)
    have og10 := M10.grownBy (fun g hg hh => by
      have h5 := (og.lt g hg).1
      have := E5.le
      rcases List.mem_append.1 hh with hk | hk
      · have := (ge3 g hk).2; omega
      · have := (ge4 g hk).2; omega) og9
    have sg10 := SlT.of_owns (l := chsR t b) enc3_len hN.out.symm og10
    have hkp : ¬ ((1 : Int) + n + m < 0) := by omega
    go_wp2_with fail
    refine (eqNetSpanS_same _ _ _ _ _ (chsR t b) _ sg10 (ss.ext F310) (by omega)).mono ?_
    rintro e w11 ⟨rfl, E11⟩
    have F311 := F310.trans E11
    have og11 := owns_ext og10 E11
    go_wp2_with fail
    refine (markNetSpanS_any qg N cg 1 W5.heap.size _ _ _ og11 (by omega) (by omega) (by omega)).mono ?_
    rintro e w12 ⟨rfl, og12, M12⟩
    have ge5 := owns_ge og
    have F312 : Ext w3 w12 := F311.then M12 (fun k hk => by
      have := (ge5 k hk).1
      have := (E4.trans E5).le
      omega)
    go_wp2_with fail
    refine (heldNetSpanS_any qg N cg 1 W5.heap.size _ _ og12 (by omega) (by omega) (by omega)).mono ?_
    rintro e w13 ⟨rfl, rfl⟩
    have g13 := (gb.out.ext (E123.trans F312)).cells
    go_wp2_with fail
    refine (toChannel_any _ _ n m _ _ t b _ (h1.ext (E0.trans (E123.trans F312))) (h2.ext (E0.trans (E123.trans F312))) (by omega) (by omega)).mono ?_
    rintro e w14 ⟨q7, q8, rfl, o7, o8, _, E14⟩
    have C14 := IsCh.of_owns (by omega) (by omega) l1.out l2.out o7 o8
    clear o7 o8 g13
    go_wp2_with fail
    have hcs := ChannelSpans_any _ _ _ _ _ _ t b _ C14
    rw [← hN.out] at hcs
    refine hcs.mono ?_
    clear hcs
    rintro e w15 ⟨qh, ch, rfl, oh, E15⟩
    have oh : w15.ownsRow w14.heap.size 69 3 (.slice qh N ch) N ((chsR t b).flatMap enc3) := by have := oh; rw [Own, ← hN.out] at this; exact this
    have sh := SlT.of_owns (l := chsR t b) enc3_len hN.out.symm oh
    have F315 := F312.trans (E14.trans E15)
    go_wp2_with fail
    refine (eqNetSpanS_same _ _ _ _ _ (chsR t b) _ sh (ss.ext F315) (by omega)).mono ?_
    rintro e w16 ⟨rfl, E16⟩
    go_wp2_with fail
    refine (heldNetSpanS_any qg N cg 1 W5.heap.size _ _ (owns_ext og12 ((E14.trans E15).trans E16)) (by omega) (by omega) (by omega)).mono ?_
    rintro e w17 ⟨rfl, rfl⟩
    go_wp2_with fail
    go_ret
    exact ⟨rfl, E0.trans (E123.trans (F315.trans E16))⟩
  · go_enter Try.func8, Try.ntmps8
    go_wp2_with fail
    generalize hW : w.alloc _ = W0
    obtain ⟨E0, z0, b0⟩ := boxes1 hW
    clear hW z0 b0
    refine (szChannel_any _ _ _ _ _ _ _ _ (by omega) (by omega) (by omega) (by omega)).mono ?_
    rintro e w1 ⟨rfl, E1⟩
    rw [lessOr, if_pos (by omega)]
    go_wp2_with fail
    go_ret
    exact ⟨rfl, E0.trans E1⟩
end Go.Proofs.Ytkkhdjacclgcaaa
