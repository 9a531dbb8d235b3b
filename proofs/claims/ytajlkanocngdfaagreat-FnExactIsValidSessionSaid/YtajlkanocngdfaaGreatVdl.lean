/- Looking for a rule in a list; validity of decks, program and reference. Condition: lengths that fit. -/
import Derived.Test.YtajlkanocngdfaaGreatVdk
import Derived.BigRegion
namespace Go.Proofs.YtajlkanocngdfaaGreat
open Go.RowKit Go.PlainAid


set_option maxRecDepth 100000 in
set_option maxHeartbeats 4000000 in
theorem indexRu_any (p : Option Addr) (n c base : Nat) (l : List RuD) (v1 v2 v3 v4 v5 : Int) (w : World) (h : SlD (Fl encRu) 5 base w p n l) (hn : n ≤ 9223372036854775807) :
    Calls Tryz.prog 87 #[.slice p n c, .agg #[.int .i64 v1, .int .i64 v2, .int .i64 v3, .int .i64 v4, .int .i64 v5]] w fun e w' => e = .returned (.int .i64 (idx (eqR ⟨v1, v2, v3, v4, v5⟩) l)) ∧ Ext w w' := by
  have hl := hid h.length
  go_enter Tryz.func87, Tryz.ntmps87
  go_upto_region 1 with (fail)
  generalize hW : World.alloc _ _ = W0
  obtain ⟨E0, z0, b0⟩ := boxes1 hW
  clear hW z0
  replace b0 := hid (show Blk W0 (w.heap.size) [_, _, _, _, _] _ from b0)
  have g0 := b0.out.cells
  have l0 := b0.out.lt
  have E := Ext.refl W0
  go_wp2_with (fail)
  go_loopw [5, 8] (fun _ i wr => ∃ k : Nat, k ≤ n ∧ i = .int .i64 k ∧ Ext W0 wr ∧ Hid ((l.take k).any (eqR ⟨v1, v2, v3, v4, v5⟩) = false)) (fun _ i _ => n - (intOf i).toNat)
  case atStart => exact ⟨0, by omega, rfl, E, rfl⟩
  case round =>
    clear g0 l0 E
    obtain ⟨k, hk, rfl, E, hA⟩ := hrel
    have g0 := (b0.out.ext E).cells
    have l0 := (b0.out.ext E).lt
    by_cases hlt : k < n
    · have hltI : (k : Int) < n := by omega
      obtain ⟨b, off, x, cs, rfl, hb, hx, hcs, hc⟩ := ((h.ext okRule E0).ext okRule E).get hlt
      obtain rfl : cs = encRu x := hcs
      obtain ⟨x1, x2, x3, x4, x5⟩ := x
      have y0 := hc 0 _ rfl
      rw [Nat.add_zero] at y0
      have y1 := hc 1 _ rfl
      have y2 := hc 2 _ rfl
      have y3 := hc 3 _ rfl
      have y4 := hc 4 _ rfl
      clear hc
      by_cases q1 : v1 = x1
      · subst q1
        by_cases q2 : v2 = x2
        · subst q2
          by_cases q3 : v3 = x3
          · subst q3
            by_cases q4 : v4 = x4
            · subst q4
              by_cases q5 : v5 = x5
              · subst q5
                have hq : eqR ⟨v1, v2, v3, v4, v5⟩ ⟨v1, v2, v3, v4, v5⟩ = true := eqR_self _
                have hr : Hid (idx (eqR ⟨v1, v2, v3, v4, v5⟩) l = k) := idx_hit hA.out hx.out hq
                clear hq
                go_wp2_with (fail)
                refine wp_region_later (by kernel_rfl) (by kernel_rfl) ?_
                repeat (go_big_quiet_step (fail))
                refine wpQuiet_nil ?_
                rintro w7 ⟨⟨_, h7⟩, rfl⟩
                go_wp2
                go_ret
                exact ⟨ret_int hr.out.symm, E0.trans (E.trans h7)⟩
              · have hq : eqR ⟨v1, v2, v3, v4, v5⟩ ⟨v1, v2, v3, v4, x5⟩ = false := by unfold eqR; simp [q5]
                have hr := hid (any_take_snoc hA.out hx.out hq)
                clear hq
                go_wp2_with (fail)
                refine wp_region_later (by kernel_rfl) (by kernel_rfl) ?_
                repeat (go_big_quiet_step (fail))
                refine wpQuiet_nil ?_
                rintro w7 ⟨⟨_, h7⟩, rfl⟩
                go_wp2
                go_roundw
                case rel => exact ⟨k + 1, by omega, by go_num, E.trans h7, hr⟩
                case measure => simp [intOf]; omega
            · have hq : eqR ⟨v1, v2, v3, v4, v5⟩ ⟨v1, v2, v3, x4, x5⟩ = false := by unfold eqR; simp [q4]
              have hr := hid (any_take_snoc hA.out hx.out hq)
              clear hq
              go_wp2_with (fail)
              refine wp_region_later (by kernel_rfl) (by kernel_rfl) ?_
              repeat (go_big_quiet_step (fail))
              refine wpQuiet_nil ?_
              rintro w7 ⟨⟨_, h7⟩, rfl⟩
              go_wp2
              go_roundw
              case rel => exact ⟨k + 1, by omega, by go_num, E.trans h7, hr⟩
              case measure => simp [intOf]; omega
          · have hq : eqR ⟨v1, v2, v3, v4, v5⟩ ⟨v1, v2, x3, x4, x5⟩ = false := by unfold eqR; simp [q3]
            have hr := hid (any_take_snoc hA.out hx.out hq)
            clear hq
            go_wp2_with (fail)
            refine wp_region_later (by kernel_rfl) (by kernel_rfl) ?_
            repeat (go_big_quiet_step (fail))
            refine wpQuiet_nil ?_
            rintro w7 ⟨⟨_, h7⟩, rfl⟩
            go_wp2
            go_roundw
            case rel => exact ⟨k + 1, by omega, by go_num, E.trans h7, hr⟩
            case measure => simp [intOf]; omega
        · have hq : eqR ⟨v1, v2, v3, v4, v5⟩ ⟨v1, x2, x3, x4, x5⟩ = false := by unfold eqR; simp [q2]
          have hr := hid (any_take_snoc hA.out hx.out hq)
          clear hq
          go_wp2_with (fail)
          refine wp_region_later (by kernel_rfl) (by kernel_rfl) ?_
          repeat (go_big_quiet_step (fail))
          refine wpQuiet_nil ?_
          rintro w7 ⟨⟨_, h7⟩, rfl⟩
          go_wp2
          go_roundw
          case rel => exact ⟨k + 1, by omega, by go_num, E.trans h7, hr⟩
          case measure => simp [intOf]; omega
      · have hq : eqR ⟨v1, v2, v3, v4, v5⟩ ⟨x1, x2, x3, x4, x5⟩ = false := by unfold eqR; simp [q1]
        have hr := hid (any_take_snoc hA.out hx.out hq)
        clear hq
        go_wp2_with (fail)
        refine wp_region_later (by kernel_rfl) (by kernel_rfl) ?_
        repeat (go_big_quiet_step (fail))
        refine wpQuiet_nil ?_
        rintro w7 ⟨⟨_, h7⟩, rfl⟩
        go_wp2
        go_roundw
        case rel => exact ⟨k + 1, by omega, by go_num, E.trans h7, hr⟩
        case measure => simp [intOf]; omega
    · have hr : Hid (idx (eqR ⟨v1, v2, v3, v4, v5⟩) l = -1) := by
        have := hA.out
        rw [take_all hl.out (by omega)] at this
        exact idx_miss this
      go_wp2_with (fail)
      go_ret
      exact ⟨ret_int hr.out.symm, E0.trans E⟩

set_option maxRecDepth 100000 in
set_option maxHeartbeats 4000000 in
theorem containsRu_any (p : Option Addr) (n c base : Nat) (l : List RuD) (v1 v2 v3 v4 v5 : Int) (w : World) (h : SlD (Fl encRu) 5 base w p n l) (hn : n ≤ 9223372036854775807) :
    Calls Tryz.prog 52 #[.slice p n c, .agg #[.int .i64 v1, .int .i64 v2, .int .i64 v3, .int .i64 v4, .int .i64 v5]] w fun e w' => e = .returned (.bool (l.any (eqR ⟨v1, v2, v3, v4, v5⟩))) ∧ Ext w w' := by
  have hr := hid (idx_any (eqR ⟨v1, v2, v3, v4, v5⟩) l)
  go_enter Tryz.func52, Tryz.ntmps52
  go_upto_region 1 with (fail)
  generalize hW : World.alloc _ _ = W0
  obtain ⟨E0, z0, b0⟩ := boxes1 hW
  clear hW z0
  replace b0 := hid (show Blk W0 (w.heap.size) [_, _, _, _, _] _ from b0)
  have g0 := b0.out.cells
  have l0 := b0.out.lt
  have E := Ext.refl W0
  go_wp2_with (go_at_call 87; refine (indexRu_any p n c base l v1 v2 v3 v4 v5 _ ((h.ext okRule E0).ext okRule E) hn).mono ?_; rintro e w3 ⟨rfl, E3⟩)
  go_ret
  exact ⟨ret_bool hr.out, E0.trans (E.trans E3)⟩
set_option maxRecDepth 100000 in
set_option maxHeartbeats 4000000 in
theorem l16Has_any (p : Option Addr) (n c base : Nat) (l : List RuD) (v1 v2 v3 v4 v5 : Int) (w : World) (h : SlD (Fl encRu) 5 base w p n l) (hn : n ≤ 9223372036854775807) :
    Calls Tryz.prog 38 #[.slice p n c, .agg #[.int .i64 v1, .int .i64 v2, .int .i64 v3, .int .i64 v4, .int .i64 v5]] w fun e w' => e = .returned (.bool (l.any (eqR ⟨v1, v2, v3, v4, v5⟩))) ∧ Ext w w' := by
  have hl := hid h.length
  go_enter Tryz.func38, Tryz.ntmps38
  go_upto_region 1 with (fail)
  generalize hW : World.alloc _ _ = W0
  obtain ⟨E0, z0, b0⟩ := boxes1 hW
  clear hW z0
  replace b0 := hid (show Blk W0 (w.heap.size) [_, _, _, _, _] _ from b0)
  have g0 := b0.out.cells
  have l0 := b0.out.lt
  have E := Ext.refl W0
  go_wp2_with (fail)
  go_loopw [5] (fun i wr => ∃ k : Nat, k ≤ n ∧ i = .int .i64 k ∧ Ext W0 wr ∧ Hid ((l.take k).any (eqR ⟨v1, v2, v3, v4, v5⟩) = false)) (fun i _ => n - (intOf i).toNat)
  case atStart => exact ⟨0, by omega, rfl, E, rfl⟩
  case round =>
    clear g0 l0 E
    obtain ⟨k, hk, rfl, E, hA⟩ := hrel
    have g0 := (b0.out.ext E).cells
    have l0 := (b0.out.ext E).lt
    by_cases hlt : k < n
    · have hltI : (k : Int) < n := by omega
      obtain ⟨b, off, x, cs, rfl, hb, hx, hcs, hc⟩ := ((h.ext okRule E0).ext okRule E).get hlt
      obtain rfl : cs = encRu x := hcs
      obtain ⟨x1, x2, x3, x4, x5⟩ := x
      have y0 := hc 0 _ rfl
      rw [Nat.add_zero] at y0
      have y1 := hc 1 _ rfl
      have y2 := hc 2 _ rfl
      have y3 := hc 3 _ rfl
      have y4 := hc 4 _ rfl
      clear hc
      by_cases q1 : v1 = x1
      · subst q1
        by_cases q2 : v2 = x2
        · subst q2
          by_cases q3 : v3 = x3
          · subst q3
            by_cases q4 : v4 = x4
            · subst q4
              by_cases q5 : v5 = x5
              · subst q5
                have hq : eqR ⟨v1, v2, v3, v4, v5⟩ ⟨v1, v2, v3, v4, v5⟩ = true := eqR_self _
                have hr : Hid (true = l.any (eqR ⟨v1, v2, v3, v4, v5⟩)) := by show _ = _; symm; rw [List.any_eq_true]; exact ⟨_, List.mem_of_getElem? hx.out, hq⟩
                clear hq
                go_wp2_with (fail)
                refine wp_region_later (by kernel_rfl) (by kernel_rfl) ?_
                repeat (go_big_quiet_step (fail))
                refine wpQuiet_nil ?_
                rintro w7 ⟨⟨_, h7⟩, rfl⟩
                go_wp2
                go_ret
                exact ⟨ret_bool hr.out, E0.trans (E.trans h7)⟩
              · have hq : eqR ⟨v1, v2, v3, v4, v5⟩ ⟨v1, v2, v3, v4, x5⟩ = false := by unfold eqR; simp [q5]
                have hr := hid (any_take_snoc hA.out hx.out hq)
                clear hq
                go_wp2_with (fail)
                refine wp_region_later (by kernel_rfl) (by kernel_rfl) ?_
                repeat (go_big_quiet_step (fail))
                refine wpQuiet_nil ?_
                rintro w7 ⟨⟨_, h7⟩, rfl⟩
                go_wp2
                go_roundw
                case rel => exact ⟨k + 1, by omega, by go_num, E.trans h7, hr⟩
                case measure => simp [intOf]; omega
            · have hq : eqR ⟨v1, v2, v3, v4, v5⟩ ⟨v1, v2, v3, x4, x5⟩ = false := by unfold eqR; simp [q4]
              have hr := hid (any_take_snoc hA.out hx.out hq)
              clear hq
              go_wp2_with (fail)
              refine wp_region_later (by kernel_rfl) (by kernel_rfl) ?_
              repeat (go_big_quiet_step (fail))
              refine wpQuiet_nil ?_
              rintro w7 ⟨⟨_, h7⟩, rfl⟩
              go_wp2
              go_roundw
              case rel => exact ⟨k + 1, by omega, by go_num, E.trans h7, hr⟩
              case measure => simp [intOf]; omega
          · have hq : eqR ⟨v1, v2, v3, v4, v5⟩ ⟨v1, v2, x3, x4, x5⟩ = false := by unfold eqR; simp [q3]
            have hr := hid (any_take_snoc hA.out hx.out hq)
            clear hq
            go_wp2_with (fail)
            refine wp_region_later (by kernel_rfl) (by kernel_rfl) ?_
            repeat (go_big_quiet_step (fail))
            refine wpQuiet_nil ?_
            rintro w7 ⟨⟨_, h7⟩, rfl⟩
            go_wp2
            go_roundw
            case rel => exact ⟨k + 1, by omega, by go_num, E.trans h7, hr⟩
            case measure => simp [intOf]; omega
        · have hq : eqR ⟨v1, v2, v3, v4, v5⟩ ⟨v1, x2, x3, x4, x5⟩ = false := by unfold eqR; simp [q2]
          have hr := hid (any_take_snoc hA.out hx.out hq)
          clear hq
          go_wp2_with (fail)
          refine wp_region_later (by kernel_rfl) (by kernel_rfl) ?_
          repeat (go_big_quiet_step (fail))
          refine wpQuiet_nil ?_
          rintro w7 ⟨⟨_, h7⟩, rfl⟩
          go_wp2
          go_roundw
          case rel => exact ⟨k + 1, by omega, by go_num, E.trans h7, hr⟩
          case measure => simp [intOf]; omega
      · have hq : eqR ⟨v1, v2, v3, v4, v5⟩ ⟨x1, x2, x3, x4, x5⟩ = false := by unfold eqR; simp [q1]
        have hr := hid (any_take_snoc hA.out hx.out hq)
        clear hq
        go_wp2_with (fail)
        refine wp_region_later (by kernel_rfl) (by kernel_rfl) ?_
        repeat (go_big_quiet_step (fail))
        refine wpQuiet_nil ?_
        rintro w7 ⟨⟨_, h7⟩, rfl⟩
        go_wp2
        go_roundw
        case rel => exact ⟨k + 1, by omega, by go_num, E.trans h7, hr⟩
        case measure => simp [intOf]; omega
    · have hr : Hid (false = l.any (eqR ⟨v1, v2, v3, v4, v5⟩)) := by
        have := hA.out
        rw [take_all hl.out (by omega)] at this
        exact this.symm
      go_wp2_with (fail)
      go_ret
      exact ⟨ret_bool hr.out, E0.trans E⟩

set_option maxRecDepth 100000 in
set_option maxHeartbeats 4000000 in
theorem pDeck_any (p : Option Addr) (n base : Nat) (l : List RuD) (w : World) (h : SlD (Fl encRu) 5 base w p n l) (hn : n ≤ 9223372036854775807) :
    Calls Tryz.prog 22 #[.agg #[.slice p n n]] w fun e w' => e = .returned (.bool (dkB l)) ∧ Ext w w' := by
  have hl := hid h.length
  go_enter Tryz.func22, Tryz.ntmps22
  go_upto_region 1 with (fail)
  generalize hW : World.alloc _ _ = W0
  obtain ⟨E0, z0, b0⟩ := boxes1 hW
  clear hW z0
  replace b0 := hid (show Blk W0 (w.heap.size) [_] _ from b0)
  have g0 := b0.out.cells
  have l0 := b0.out.lt
  have E := Ext.refl W0
  go_wp2_with (fail)
  go_loopw [3, 4, 8] (fun _ _ i wr => ∃ k : Nat, k ≤ n ∧ i = .int .i64 k ∧ Ext W0 wr ∧ Hid (∀ j, j < k → ruOk l j = true)) (fun _ _ i _ => n - (intOf i).toNat)
  case atStart => exact ⟨0, by omega, rfl, E, fun j hj => by omega⟩
  case round =>
    clear g0 l0 E
    obtain ⟨k, hk, rfl, E, hA⟩ := hrel
    have g0 := (b0.out.ext E).cells
    have l0 := (b0.out.ext E).lt
    by_cases hlt : k < n
    · have hltI : (k : Int) < n := by omega
      have hleI : (k : Int) ≤ n := by omega
      obtain ⟨b, off, x, cs, rfl, hb, hx, hcs, hc⟩ := ((h.ext okRule E0).ext okRule E).get hlt
      obtain rfl : cs = encRu x := hcs
      obtain ⟨y1, y2, y3, y4, y5⟩ := x
      have z0 := hc 0 _ rfl
      rw [Nat.add_zero] at z0
      have z1 := hc 1 _ rfl
      have z2 := hc 2 _ rfl
      have z3 := hc 3 _ rfl
      have z4 := hc 4 _ rfl
      clear hc
      go_upto_region 4 with (fail)
      generalize hV : World.alloc _ _ = W1
      obtain ⟨E1, zz, b1⟩ := boxes1 hV
      clear hV zz z0 z1 z2 z3 z4 g0 l0
      replace b1 := hid (show Blk W1 wr.heap.size [_, _, _, _, _] _ from b1)
      replace E := E.trans E1
      replace hb := Nat.lt_of_lt_of_le hb E1.le
      have g0 := (b0.out.ext E).cells
      have l0 := (b0.out.ext E).lt
      have g1 := b1.out.cells
      have l1 := b1.out.lt
      have hc1 : ∀ P : Later W1, Calls Tryz.prog 51 #[.agg #[.int .i64 y1, .int .i64 y2, .int .i64 y3, .int .i64 y4, .int .i64 y5]] P.val fun e w' => e = .returned (.bool (ruB ⟨y1, y2, y3, y4, y5⟩)) ∧ Ext P.val w' := fun P => pRule_any ⟨y1, y2, y3, y4, y5⟩ P.val
      have hc2 : ∀ P : Later W1, Calls Tryz.prog 52 #[.slice (some ⟨b, off, none⟩) k n, .agg #[.int .i64 y1, .int .i64 y2, .int .i64 y3, .int .i64 y4, .int .i64 y5]] P.val fun e w' => e = .returned (.bool ((l.take k).any (eqR ⟨y1, y2, y3, y4, y5⟩))) ∧ Ext P.val w' := fun P =>
        containsRu_any (some ⟨b, off, none⟩) k n base (l.take k) y1 y2 y3 y4 y5 P.val (((h.ext okRule E0).ext okRule (E.trans P.ok)).take (by omega)) (by omega)
      cases hq : ruB ⟨y1, y2, y3, y4, y5⟩ with
      | false =>
        have a1 : (List.range l.length).all (ruOk l) = false := range_no (by rw [hl.out]; exact hlt) (ruOk_bad hx.out hq)
        have hr : Hid (false = dkB l) := by show _ = _; unfold dkB; rw [a1]; simp
        rw [hq] at hc1
        clear hq a1
        replace hc1 := hid hc1
        replace hc2 := hid hc2
        refine wp_region_later (by kernel_rfl) (by kernel_rfl) ?_
        repeat (go_big_quiet_step (first | (go_at_call 51; exact later_of (hc1.out _)) | (go_at_call 52; exact later_of (hc2.out _))))
        refine wpQuiet_nil ?_
        rintro w7 ⟨⟨_, h7⟩, rfl⟩
        go_wp2
        go_ret
        exact ⟨ret_bool hr.out, E0.trans (E.trans h7)⟩
      | true =>
        cases hd : (l.take k).any (eqR ⟨y1, y2, y3, y4, y5⟩) with
        | true =>
          have a1 : (List.range l.length).all (ruOk l) = false := range_no (by rw [hl.out]; exact hlt) (ruOk_dup hx.out hd)
          have hr : Hid (false = dkB l) := by show _ = _; unfold dkB; rw [a1]; simp
          rw [hq] at hc1
          rw [hd] at hc2
          clear hq hd a1
          replace hc1 := hid hc1
          replace hc2 := hid hc2
          refine wp_region_later (by kernel_rfl) (by kernel_rfl) ?_
          repeat (go_big_quiet_step (first | (go_at_call 51; exact later_of (hc1.out _)) | (go_at_call 52; exact later_of (hc2.out _))))
          refine wpQuiet_nil ?_
          rintro w7 ⟨⟨_, h7⟩, rfl⟩
          go_wp2
          go_ret
          exact ⟨ret_bool hr.out, E0.trans (E.trans h7)⟩
        | false =>
          have hr := hid (ruOk_good hx.out hq hd)
          rw [hq] at hc1
          rw [hd] at hc2
          clear hq hd
          replace hc1 := hid hc1
          replace hc2 := hid hc2
          refine wp_region_later (by kernel_rfl) (by kernel_rfl) ?_
          repeat (go_big_quiet_step (first | (go_at_call 51; exact later_of (hc1.out _)) | (go_at_call 52; exact later_of (hc2.out _))))
          refine wpQuiet_nil ?_
          rintro w7 ⟨⟨_, h7⟩, rfl⟩
          go_wp2
          go_roundw
          case rel =>
            refine ⟨k + 1, by omega, by go_num, E.trans h7, fun j hj => ?_⟩
            by_cases hjk : j = k
            · subst hjk; exact hr.out
            · exact hA.out j (by omega)
          case measure => simp [intOf]; omega

    · have a1 : (List.range l.length).all (ruOk l) = true := range_yes fun j hj => hA.out j (by have := hl.out; omega)
      have hr : Hid (decide ((n : Int) ≤ 12) = dkB l) := by
        show _ = _
        have := hl.out
        unfold dkB
        rw [a1, this]
        simp
        omega
      clear a1
      go_wp2_with (fail)
      go_ret
      exact ⟨ret_bool hr.out, E0.trans E⟩

set_option maxRecDepth 100000 in
set_option maxHeartbeats 4000000 in
theorem rDeck_any (p : Option Addr) (n base : Nat) (l : List RuD) (w : World) (h : SlD (Fl encRu) 5 base w p n l) (hn : n ≤ 9223372036854775807) :
    Calls Tryz.prog 14 #[.agg #[.slice p n n]] w fun e w' => e = .returned (.bool (dkB l)) ∧ Ext w w' := by
  have hl := hid h.length
  by_cases m2 : 12 < n
  · have z2 : (12 : Int) < n := by omega
    have d2 : decide (l.length ≤ 12) = false := decide_eq_false (by have := hl.out; omega)
    have hr : Hid (false = dkB l) := by show _ = _; unfold dkB; rw [d2]; rfl
    clear d2
    go_enter Tryz.func14, Tryz.ntmps14
    go_upto_region 1 with (fail)
    generalize hW : World.alloc _ _ = W0
    obtain ⟨E0, z0, b0⟩ := boxes1 hW
    clear hW z0
    replace b0 := hid (show Blk W0 (w.heap.size) [_] _ from b0)
    have g0 := b0.out.cells
    have l0 := b0.out.lt
    have E := Ext.refl W0
    go_wp2_with (fail)
    go_ret
    exact ⟨ret_bool hr.out, E0.trans E⟩
  have d2 : Hid (decide (l.length ≤ 12) = true) := decide_eq_true (by have := hl.out; omega)
  go_enter Tryz.func14, Tryz.ntmps14
  go_upto_region 1 with (fail)
  generalize hW : World.alloc _ _ = W0
  obtain ⟨E0, z0, b0⟩ := boxes1 hW
  clear hW z0
  replace b0 := hid (show Blk W0 (w.heap.size) [_] _ from b0)
  have g0 := b0.out.cells
  have l0 := b0.out.lt
  have E := Ext.refl W0
  go_wp2_with (fail)
  go_loopw [3] (fun i wr => ∃ k : Nat, k ≤ n ∧ i = .int .i64 k ∧ Ext W0 wr ∧ Hid (∀ j, j < k → ruOk l j = true)) (fun i _ => n - (intOf i).toNat)
  case atStart => exact ⟨0, by omega, rfl, E, fun j hj => by omega⟩
  case round =>
    clear g0 l0 E
    obtain ⟨k, hk, rfl, E, hA⟩ := hrel
    have g0 := (b0.out.ext E).cells
    have l0 := (b0.out.ext E).lt
    by_cases hlt : k < n
    · have hltI : (k : Int) < n := by omega
      have hleI : (k : Int) ≤ n := by omega
      obtain ⟨b, off, x, cs, rfl, hb, hx, hcs, hc⟩ := ((h.ext okRule E0).ext okRule E).get hlt
      obtain rfl : cs = encRu x := hcs
      obtain ⟨y1, y2, y3, y4, y5⟩ := x
      have z0 := hc 0 _ rfl
      rw [Nat.add_zero] at z0
      have z1 := hc 1 _ rfl
      have z2 := hc 2 _ rfl
      have z3 := hc 3 _ rfl
      have z4 := hc 4 _ rfl
      clear hc
      have hc1 : ∀ P : Later wr, Calls Tryz.prog 37 #[.agg #[.int .i64 y1, .int .i64 y2, .int .i64 y3, .int .i64 y4, .int .i64 y5]] P.val fun e w' => e = .returned (.bool (ruB ⟨y1, y2, y3, y4, y5⟩)) ∧ Ext P.val w' := fun P => rRule_any ⟨y1, y2, y3, y4, y5⟩ P.val
      have hc2 : ∀ P : Later wr, Calls Tryz.prog 38 #[.slice (some ⟨b, off, none⟩) k n, .agg #[.int .i64 y1, .int .i64 y2, .int .i64 y3, .int .i64 y4, .int .i64 y5]] P.val fun e w' => e = .returned (.bool ((l.take k).any (eqR ⟨y1, y2, y3, y4, y5⟩))) ∧ Ext P.val w' := fun P =>
        l16Has_any (some ⟨b, off, none⟩) k n base (l.take k) y1 y2 y3 y4 y5 P.val (((h.ext okRule E0).ext okRule (E.trans P.ok)).take (by omega)) (by omega)
      go_wp2_with (fail)
      cases hq : ruB ⟨y1, y2, y3, y4, y5⟩ with
      | false =>
        have a1 : (List.range l.length).all (ruOk l) = false := range_no (by rw [hl.out]; exact hlt) (ruOk_bad hx.out hq)
        have hr : Hid (false = dkB l) := by show _ = _; unfold dkB; rw [a1]; simp
        rw [hq] at hc1
        clear hq a1
        replace hc1 := hid hc1
        replace hc2 := hid hc2
        refine wp_region_later (by kernel_rfl) (by kernel_rfl) ?_
        repeat (go_big_quiet_step (first | (go_at_call 37; exact later_of (hc1.out _)) | (go_at_call 38; exact later_of (hc2.out _))))
        refine wpQuiet_nil ?_
        rintro w7 ⟨⟨_, h7⟩, rfl⟩
        go_wp2
        go_ret
        exact ⟨ret_bool hr.out, E0.trans (E.trans h7)⟩
      | true =>
        cases hd : (l.take k).any (eqR ⟨y1, y2, y3, y4, y5⟩) with
        | true =>
          have a1 : (List.range l.length).all (ruOk l) = false := range_no (by rw [hl.out]; exact hlt) (ruOk_dup hx.out hd)
          have hr : Hid (false = dkB l) := by show _ = _; unfold dkB; rw [a1]; simp
          rw [hq] at hc1
          rw [hd] at hc2
          clear hq hd a1
          replace hc1 := hid hc1
          replace hc2 := hid hc2
          refine wp_region_later (by kernel_rfl) (by kernel_rfl) ?_
          repeat (go_big_quiet_step (first | (go_at_call 37; exact later_of (hc1.out _)) | (go_at_call 38; exact later_of (hc2.out _))))
          refine wpQuiet_nil ?_
          rintro w7 ⟨⟨_, h7⟩, rfl⟩
          go_wp2
          go_ret
          exact ⟨ret_bool hr.out, E0.trans (E.trans h7)⟩
        | false =>
          have hr := hid (ruOk_good hx.out hq hd)
          rw [hq] at hc1
          rw [hd] at hc2
          clear hq hd
          replace hc1 := hid hc1
          replace hc2 := hid hc2
          refine wp_region_later (by kernel_rfl) (by kernel_rfl) ?_
          repeat (go_big_quiet_step (first | (go_at_call 37; exact later_of (hc1.out _)) | (go_at_call 38; exact later_of (hc2.out _))))
          refine wpQuiet_nil ?_
          rintro w7 ⟨⟨_, h7⟩, rfl⟩
          go_wp2
          go_roundw
          case rel =>
            refine ⟨k + 1, by omega, by go_num, E.trans h7, fun j hj => ?_⟩
            by_cases hjk : j = k
            · subst hjk; exact hr.out
            · exact hA.out j (by omega)
          case measure => simp [intOf]; omega

    · have a1 : (List.range l.length).all (ruOk l) = true := range_yes fun j hj => hA.out j (by have := hl.out; omega)
      have hr : Hid (true = dkB l) := by show _ = _; unfold dkB; rw [a1, d2.out]; rfl
      clear a1
      go_wp2_with (fail)
      go_ret
      exact ⟨ret_bool hr.out, E0.trans E⟩

end Go.Proofs.YtajlkanocngdfaaGreat
