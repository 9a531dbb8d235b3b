/- Contract of RouteRects (reference). Condition: at most 2^20 points. -/
import Derived.Test.YthdilndfcdpeiaaRrp
import Derived.Test.YthdilndfcdpeiaaIrs2
namespace Go.Proofs.Ythdilndfcdpeiaa
open Go.RowKit

theorem vint3 {k : IntKind} {a b : Int} (h : a = b) : Value.int k a = .int k b := by rw [h]
set_option maxRecDepth 100000 in
set_option maxHeartbeats 8000000 in
theorem specRouteRects_any (q : Option Addr) (n c : Nat) (ps : List Q2) (w : World) (h : SlT enc2 2 w q n ps) (hn : n ≤ 1048576) :
    Calls Try.prog 46 #[.slice q n c] w (RrB ps w) := by
  obtain ⟨i0, hi, hz0, hz1, hz2⟩ := info_parts info_Rect
  have hl := hid h.length
  have hc1 := specIsRoute_any none 0 0 [] q n c ps w (SlT.zero _ _) h (by omega) hn
  cases hr : isRt [] ps with
  | false =>
    rw [hr] at hc1
    have hr := hid hr
    go_enter Try.func46, Try.ntmps46
    go_wp2_with fail
    refine hc1.mono ?_
    rintro e w1 ⟨rfl, E1⟩
    go_wp2_with fail
    go_ret2
    exact rr_none hr.out E1
  | true =>
    rw [hr] at hc1
    have hr := hid hr
    have h0 := (isRt_parts hr.out).2.1
    have h64 := isRt_len hr.out
    rw [hl.out] at h0 h64
    go_enter Try.func46, Try.ntmps46
    go_wp2_with fail
    refine hc1.mono ?_
    rintro e w1 ⟨rfl, E1⟩
    clear hc1
    go_wp2_with fail
    have ho0 : (w1.alloc (.cells #[] 66)).ownsRow w.heap.size 66 4 (.slice (some ⟨w1.heap.size, 0, none⟩) 0 0) 0 [] := by
      have := World.ownsRow_made (base := w.heap.size) (e := 66) (size := 4) w1 #[] 0 E1.le (by simp [maxLen]) (by simp)
      exact this
    have hR0 : Hid ([] ++ rest ps 0 0 = pcs ps) := by show _ = _; rw [rest_zero (by rw [hl.out]; exact h0)]; rfl
    go_loopw [4, 5, 6] (fun v i j wr => ∃ (k e : Nat) (out : List Q4) (q' : Option Addr) (c' : Nat), k ≤ e ∧ e < n ∧ v = .slice q' out.length c' ∧ i = .int .i64 k ∧ j = .int .i64 ((e : Int) + 1) ∧ Hid (out ++ rest ps k e = pcs ps) ∧ wr.ownsRow w.heap.size 66 4 (.slice q' out.length c') out.length (out.flatMap enc4) ∧ Hid (out.length ≤ e) ∧ Ext w wr) (fun _ _ j _ => 6500 - (intOf j).toNat)
    case atStart => exact ⟨0, 0, [], _, _, by omega, h0, rfl, rfl, rfl, hR0, ho0, hid (by simp), E1.alloc _⟩
    case round =>
      clear hR0 ho0 E1
      obtain ⟨k, e, out, q', c', hke, he, rfl, rfl, rfl, hI, ho, hol, hE⟩ := hrel
      have hol2 := hol.out
      have hk : k < n := by omega
      obtain ⟨bp, op, s, rfl, hbp, hs, c0, c1⟩ := h.two hk
      obtain ⟨bp', op', y, hq', _, hy, y0, y1⟩ := h.two he
      cases hq'
      have hson := hid (isRt_at hr.out hs.out).1
      have hyon := hid (isRt_at hr.out hy.out).1
      have d0 := (hE.cells _ _ hbp).trans c0
      have d1 := (hE.cells _ _ hbp).trans c1
      have hbw : bp < wr.heap.size := Nat.lt_of_lt_of_le hbp hE.le
      have hwp : IntKind.i64.wrap ((e : Int) + 1 - 1) = (e : Int) := by rw [Int.add_sub_cancel]; exact IntWalk.i64_in _ (by omega)
      have hsb : (e : Int) + 1 - 1 = (e : Int) := by omega
      replace ho := hid ho
      by_cases hlast : e + 1 < n
      · have hlI : (e : Int) + 1 < (n : Int) := by omega
        obtain ⟨bp', op', x, hq', _, hx, x0, x1⟩ := h.two hlast
        cases hq'
        have t0 := (hE.cells _ _ hbp).trans x0
        have t1 := (hE.cells _ _ hbp).trans x1
        have hnn : (0 : Int) ≤ (e : Int) + 1 := by omega
        have htn : ((e : Int) + 1).toNat = e + 1 := by omega
        clear x0 x1
        cases hst : strt s x with
        | true =>
          have hR2 : Hid (out ++ rest ps k (e + 1) = pcs ps) := by show _ = _; rw [← rest_on hs.out hx.out hst]; exact hI.out
          rw [strt, Bool.or_eq_true, decide_eq_true_eq, decide_eq_true_eq] at hst
          by_cases hxa : x.a = s.a
          · have b1 : (x.a != s.a) = false := by simpa using hxa
            clear hst
            go_wp2_with fail
            refine wp_region_later (by kernel_rfl) (by kernel_rfl) ?_
            repeat (go_big_quiet_step (fail))
            refine wpQuiet_nil ?_
            rintro w4 ⟨⟨_, E4⟩, rfl⟩
            replace hE := hE.trans E4
            replace ho := hid (owns_ext ho.out E4)
            clear E4
            go_wp2_with fail
            go_roundw
            case rel => exact ⟨k, e + 1, out, q', c', by omega, hlast, rfl, rfl, vint3 (by omega), hR2, ho.out, hid (by omega), hE⟩
            case measure => simp [intOf] <;> omega
          · have hxb : x.b = s.b := by rcases hst with h1 | h1; exact absurd h1 hxa; exact h1
            have b1 : (x.a != s.a) = true := by simpa using hxa
            have b2 : (x.b != s.b) = false := by simpa using hxb
            clear hst
            go_wp2_with fail
            refine wp_region_later (by kernel_rfl) (by kernel_rfl) ?_
            repeat (go_big_quiet_step (fail))
            refine wpQuiet_nil ?_
            rintro w4 ⟨⟨_, E4⟩, rfl⟩
            replace hE := hE.trans E4
            replace ho := hid (owns_ext ho.out E4)
            clear E4
            go_wp2_with fail
            go_roundw
            case rel => exact ⟨k, e + 1, out, q', c', by omega, hlast, rfl, rfl, vint3 (by omega), hR2, ho.out, hid (by omega), hE⟩
            case measure => simp [intOf] <;> omega
        | false =>
          have hRR := hid (rest_off hs.out hy.out hx.out hst (isRt_adj hr.out hy.out hx.out))
          have hN : Hid ((out ++ [span s y]) ++ rest ps e (e + 1) = pcs ps) := by
            show _ = _
            rw [← rest_on hy.out hx.out (adj_strt (isRt_adj hr.out hy.out hx.out)), ← hI.out, hRR.out]; simp
          have hek : ¬ e = k := by
            intro h1
            have h2 : y = s := Option.some.inj (hy.out.symm.trans (by rw [h1]; exact hs.out))
            rw [← h2, adj_strt (isRt_adj hr.out hy.out hx.out)] at hst
            cases hst
          rw [strt, Bool.or_eq_false_iff, decide_eq_false_iff_not, decide_eq_false_iff_not] at hst
          obtain ⟨hxa, hxb⟩ := hst
          have b1 : (x.a != s.a) = true := by simpa using hxa
          have b2 : (x.b != s.b) = true := by simpa using hxb
          have hwe : IntKind.i64.wrap (e : Int) = (e : Int) := IntWalk.i64_in _ (by omega)
          have hen : (e : Int) < (n : Int) := by omega
          go_wp2_with fail
          refine wp_region_later (by kernel_rfl) (by kernel_rfl) ?_
          repeat (go_big_quiet_step (fail))
          refine wpQuiet_nil ?_
          rintro w4 ⟨⟨_, E4⟩, rfl⟩
          replace hE := hE.trans E4
          replace ho := hid (owns_ext ho.out E4)
          clear E4
          go_wp2_with fail
          clear d0 d1 t0 t1 hbw hnn htn b1 b2
          have hX : Ext w _ := hE.drew
          have ho := World.ownsRow.drew ho.out
          have keepS := hid (show ∀ W, Ext w W → (W.cell? ⟨bp, op + k * 2, none⟩ = some (.int .i64 s.a) ∧ W.cell? ⟨bp, op + k * 2 + 1, none⟩ = some (.int .i64 s.b) ∧ W.cell? ⟨bp, op + e * 2, none⟩ = some (.int .i64 y.a) ∧ W.cell? ⟨bp, op + e * 2 + 1, none⟩ = some (.int .i64 y.b)) from fun W hE => ⟨(hE.cells _ _ hbp).trans c0, (hE.cells _ _ hbp).trans c1, (hE.cells _ _ hbp).trans y0, (hE.cells _ _ hbp).trans y1⟩)
          go_region_held3 (fun W => W.cell? ⟨bp, op + k * 2, none⟩ = some (.int .i64 s.a) ∧ W.cell? ⟨bp, op + k * 2 + 1, none⟩ = some (.int .i64 s.b) ∧ W.cell? ⟨bp, op + e * 2, none⟩ = some (.int .i64 y.a) ∧ W.cell? ⟨bp, op + e * 2 + 1, none⟩ = some (.int .i64 y.b))
            (exact keepS.out _ (by first | exact hX | exact hX.alloc _ | exact hXA))
            (first
              | (go_at_call 103; (with_reducible refine (l32Span_any s y _ hson.out hyon.out).mono ?_); rintro e1 w5 ⟨rfl, E⟩; replace hX := hX.trans E; replace ho := owns_ext ho E; clear E)
              | (refine step_append_lies _ rfl _ _ 24 rfl w.heap.size 66 i0 _ 4 32 Try.underlying24 hi hz0 hz1 hz2 rfl (by omega) _ _ _ rfl (World.ownsRow.alloc ho _) ⟨_, 0, none⟩ 1 1 [.int .i64 (span s y).a, .int .i64 (span s y).b, .int .i64 (span s y).c, .int .i64 (span s y).d] rfl rfl (cells_new _ [_, _, _, _] _) (one_int4 _ _ _ _) (by omega) (len_le (by omega) (by omega)) (by omega) (hX.alloc _).le _ rfl ?_; intro gL cL wA hoA hgA hbA hlA; have hXA := (hX.alloc (.cells #[.int .i64 (span s y).a, .int .i64 (span s y).b, .int .i64 (span s y).c, .int .i64 (span s y).d] 66)).grown hgA (fun b hb => (ho.lt b hb).1)))
          replace hoA := hid hoA
          replace hXA := hid hXA
          clear hgA hbA hlA hX ho keepS y0 y1
          go_wp2_with fail
          go_roundw
          case rel => exact ⟨e, e + 1, out ++ [span s y], some ⟨gL, 0, none⟩, cL, by omega, hlast, by rw [List.length_append]; rfl, vint3 (by omega), vint3 (by omega), hN, by rw [List.length_append, List.flatMap_append]; exact hoA.out, hid (by rw [List.length_append, List.length_singleton]; omega), hXA.out⟩
          case measure => simp [intOf] <;> omega
      · have hlI : ¬ (e : Int) + 1 < (n : Int) := by omega
        have hwn : IntKind.i64.wrap ((n : Int) - 1) = (e : Int) := by rw [show (n : Int) - 1 = e by omega]; exact IntWalk.i64_in _ (by omega)
        have hRR := hid (rest_end hs.out hy.out (show ps.length ≤ e + 1 by rw [hl.out]; omega))
        have hfinA : Hid (out ++ [span s y] = pcs ps) := by show _ = _; rw [← hI.out, hRR.out]
        by_cases hek : e = k
        · subst hek
          have hsy : y = s := Option.some.inj (hy.out.symm.trans hs.out)
          rw [hsy] at y0 y1 hyon hfinA
          clear hsy
          go_wp2_with fail
          have hX : Ext w _ := hE.drew
          have ho := World.ownsRow.drew ho.out
          have keepS := hid (show ∀ W, Ext w W → (W.cell? ⟨bp, op + e * 2, none⟩ = some (.int .i64 s.a) ∧ W.cell? ⟨bp, op + e * 2 + 1, none⟩ = some (.int .i64 s.b) ∧ W.cell? ⟨bp, op + e * 2, none⟩ = some (.int .i64 s.a) ∧ W.cell? ⟨bp, op + e * 2 + 1, none⟩ = some (.int .i64 s.b)) from fun W hE => ⟨(hE.cells _ _ hbp).trans c0, (hE.cells _ _ hbp).trans c1, (hE.cells _ _ hbp).trans y0, (hE.cells _ _ hbp).trans y1⟩)
          go_region_held3 (fun W => W.cell? ⟨bp, op + e * 2, none⟩ = some (.int .i64 s.a) ∧ W.cell? ⟨bp, op + e * 2 + 1, none⟩ = some (.int .i64 s.b) ∧ W.cell? ⟨bp, op + e * 2, none⟩ = some (.int .i64 s.a) ∧ W.cell? ⟨bp, op + e * 2 + 1, none⟩ = some (.int .i64 s.b))
            (exact keepS.out _ (by first | exact hX | exact hX.alloc _ | exact hXA))
            (first
              | (go_at_call 103; (with_reducible refine (l32Span_any s s _ hson.out hyon.out).mono ?_); rintro e1 w5 ⟨rfl, E⟩; replace hX := hX.trans E; replace ho := owns_ext ho E; clear E)
              | (refine step_append_lies _ rfl _ _ 24 rfl w.heap.size 66 i0 _ 4 32 Try.underlying24 hi hz0 hz1 hz2 rfl (by omega) _ _ _ rfl (World.ownsRow.alloc ho _) ⟨_, 0, none⟩ 1 1 [.int .i64 (span s s).a, .int .i64 (span s s).b, .int .i64 (span s s).c, .int .i64 (span s s).d] rfl rfl (cells_new _ [_, _, _, _] _) (one_int4 _ _ _ _) (by omega) (len_le (by omega) (by omega)) (by omega) (hX.alloc _).le _ rfl ?_; intro gL cL wA hoA hgA hbA hlA; have hXA := (hX.alloc (.cells #[.int .i64 (span s s).a, .int .i64 (span s s).b, .int .i64 (span s s).c, .int .i64 (span s s).d] 66)).grown hgA (fun b hb => (ho.lt b hb).1)))
          replace hoA := hid hoA
          replace hXA := hid hXA
          clear hgA hbA hlA hX ho keepS y0 y1
          go_wp2_with fail
          go_ret2
          have hq := rr_done (q := some ⟨gL, 0, none⟩) (c := cL) (out := out ++ [span s s]) hr.out hfinA.out (by rw [List.length_append, List.flatMap_append]; exact hoA.out) hXA.out
          rw [List.length_append, List.length_singleton] at hq
          exact hq
        · go_wp2_with fail
          have hX : Ext w _ := hE.drew
          have ho := World.ownsRow.drew ho.out
          have keepS := hid (show ∀ W, Ext w W → (W.cell? ⟨bp, op + k * 2, none⟩ = some (.int .i64 s.a) ∧ W.cell? ⟨bp, op + k * 2 + 1, none⟩ = some (.int .i64 s.b) ∧ W.cell? ⟨bp, op + e * 2, none⟩ = some (.int .i64 y.a) ∧ W.cell? ⟨bp, op + e * 2 + 1, none⟩ = some (.int .i64 y.b)) from fun W hE => ⟨(hE.cells _ _ hbp).trans c0, (hE.cells _ _ hbp).trans c1, (hE.cells _ _ hbp).trans y0, (hE.cells _ _ hbp).trans y1⟩)
          go_region_held3 (fun W => W.cell? ⟨bp, op + k * 2, none⟩ = some (.int .i64 s.a) ∧ W.cell? ⟨bp, op + k * 2 + 1, none⟩ = some (.int .i64 s.b) ∧ W.cell? ⟨bp, op + e * 2, none⟩ = some (.int .i64 y.a) ∧ W.cell? ⟨bp, op + e * 2 + 1, none⟩ = some (.int .i64 y.b))
            (exact keepS.out _ (by first | exact hX | exact hX.alloc _ | exact hXA))
            (first
              | (go_at_call 103; (with_reducible refine (l32Span_any s y _ hson.out hyon.out).mono ?_); rintro e1 w5 ⟨rfl, E⟩; replace hX := hX.trans E; replace ho := owns_ext ho E; clear E)
              | (refine step_append_lies _ rfl _ _ 24 rfl w.heap.size 66 i0 _ 4 32 Try.underlying24 hi hz0 hz1 hz2 rfl (by omega) _ _ _ rfl (World.ownsRow.alloc ho _) ⟨_, 0, none⟩ 1 1 [.int .i64 (span s y).a, .int .i64 (span s y).b, .int .i64 (span s y).c, .int .i64 (span s y).d] rfl rfl (cells_new _ [_, _, _, _] _) (one_int4 _ _ _ _) (by omega) (len_le (by omega) (by omega)) (by omega) (hX.alloc _).le _ rfl ?_; intro gL cL wA hoA hgA hbA hlA; have hXA := (hX.alloc (.cells #[.int .i64 (span s y).a, .int .i64 (span s y).b, .int .i64 (span s y).c, .int .i64 (span s y).d] 66)).grown hgA (fun b hb => (ho.lt b hb).1)))
          replace hoA := hid hoA
          replace hXA := hid hXA
          clear hgA hbA hlA hX ho keepS y0 y1
          go_wp2_with fail
          go_ret2
          have hq := rr_done (q := some ⟨gL, 0, none⟩) (c := cL) (out := out ++ [span s y]) hr.out hfinA.out (by rw [List.length_append, List.flatMap_append]; exact hoA.out) hXA.out
          rw [List.length_append, List.length_singleton] at hq
          exact hq
end Go.Proofs.Ythdilndfcdpeiaa
