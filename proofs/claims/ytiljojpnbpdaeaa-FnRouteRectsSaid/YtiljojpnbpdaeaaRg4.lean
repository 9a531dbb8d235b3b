/- Contract of cells.region. No condition. -/
import Derived.Test.YtiljojpnbpdaeaaRow
namespace Go.Proofs.Ytiljojpnbpdaeaa
open Go.RowKit

theorem info_Rect : (Try.prog.info? 49).map (fun i => (i.zero, i.size, i.bytes)) = some (some (.agg #[.int .i64 0, .int .i64 0, .int .i64 0, .int .i64 0]), 4, 32) := by kernel_rfl
theorem infoRow : (Try.prog.info? 138).map (·.size) = some 80 := by kernel_rfl
theorem guardRow : Try.prog.eqGuardType Try.prog.depth 138 = false := by kernel_rfl
theorem cellsBool : Try.prog.cellsOf 4 = 1 := by kernel_rfl
theorem infoBool : ∃ i, Try.prog.info? 4 = some i := Option.isSome_iff_exists.1 (by kernel_rfl)
theorem rangeLater {w : World} {b o : Nat} {cs : List Value} (h : w.rangeAt b o cs) (p : Later w) (hb : b < w.heap.size) : p.val.rangeAt b o cs := fun j v hj => (p.ok.cells b (o + j) hb).trans (h j v hj)
/-- What region leaves: its list in a row of its own. -/
def RegB (l : List Q4) (w : World) (e : Ending) (w' : World) : Prop := ∃ q c, e = .returned (.slice q l.length c) ∧ w'.ownsRow w.heap.size 49 4 (.slice q l.length c) l.length (l.flatMap enc4) ∧ Ext w w'
/-- What holds at the head of the loop over the rows. -/
def AtRow (B : Nat) (g : Grid) (w : World) (v i : Value) (wr : World) : Prop := ∃ (y : Nat) (out : List Q4) (q : Option Addr) (c : Nat), y ≤ 80 ∧ v = .slice q out.length c ∧ i = .int .i64 y ∧ canon g = out ++ canonY g ((y : Int) - 40) ∧ wr.ownsRow w.heap.size 49 4 (.slice q out.length c) out.length (out.flatMap enc4) ∧ Blk wr B (gcells g) 140 ∧ Ext w wr
/-- What holds at the head of the loop over the columns of row y, whose band ends at e. -/
def AtCol (B : Nat) (g : Grid) (w : World) (y e : Nat) (v i : Value) (wr : World) : Prop := ∃ (x : Nat) (out : List Q4) (q : Option Addr) (c : Nat), x ≤ 81 ∧ v = .slice q out.length c ∧ i = .int .i64 x ∧ Hid (Rest g ((y : Int) - 40) ((e : Int) - 40) ((x : Int) - 40) out) ∧ Hid (gh g ((x : Int) - 40 - 1) ((y : Int) - 40) = false) ∧
  wr.ownsRow w.heap.size 49 4 (.slice q out.length c) out.length (out.flatMap enc4) ∧ Blk wr B (gcells g) 140 ∧ Ext w wr
set_option maxRecDepth 100000 in
set_option maxHeartbeats 4000000 in
theorem region_any (B : Nat) (g : Grid) (w : World) (hb : Blk w B (gcells g) 140) :
    Calls Try.prog 58 #[.pointer (some ⟨B, 0, none⟩)] w (RegB (canon g) w) := by
  obtain ⟨i0, hi, hz0, hz1, hz2⟩ := info_parts info_Rect
  obtain ⟨ib, hib⟩ := infoBool
  have ho0 : (w.alloc (.cells #[] 49)).ownsRow w.heap.size 49 4 (.slice (some ⟨w.heap.size, 0, none⟩) 0 0) 0 [] := by
    have := World.ownsRow_made (base := w.heap.size) (e := 49) (size := 4) w #[] 0 (by simp) (by simp [maxLen]) (by simp)
    exact this
  have hA0 := hid (show AtRow B g w (.slice (some ⟨w.heap.size, 0, none⟩) 0 0) (.int .i64 (0 : Nat)) (w.alloc (.cells #[] 49)) from ⟨0, [], _, _, by omega, rfl, rfl, rfl, ho0, hb.alloc _, (Ext.refl _).alloc _⟩)
  clear ho0
  have hbw := hid hb
  clear hb
  go_enter Try.func58, Try.ntmps58
  go_wp2
  go_loopw [3, 4] (AtRow B g w) (fun _ i _ => 80 - (intOf i).toNat)
  case atStart => exact hA0.out
  case round =>
    clear hA0
    obtain ⟨y, out, q, c, hy, rfl, rfl, hC, ho, hbr, hE⟩ := hrel
    replace hC := hid hC
    replace ho := hid ho
    have hBl := hbr.lt
    replace hbr := hid hbr
    by_cases hy8 : y < 80
    · have hyI : (y : Int) < 80 := by omega
      go_wp2
      go_loopw [5] (fun i wr => ∃ e : Nat, y + 1 ≤ e ∧ e ≤ 80 ∧ i = .int .i64 e ∧ Hid (rowEnd g ((y : Int) - 40) ((y : Int) - 40 + 1) = rowEnd g ((y : Int) - 40) ((e : Int) - 40)) ∧ wr.ownsRow w.heap.size 49 4 (.slice q out.length c) out.length (out.flatMap enc4) ∧ Blk wr B (gcells g) 140 ∧ Ext w wr) (fun i _ => 80 - (intOf i).toNat)
      case atStart => exact ⟨y + 1, by omega, by omega, by go_num, by show _ = _; rw [show (((y + 1 : Nat) : Int) - 40) = (y : Int) - 40 + 1 by omega], ho.out, hbr.out, hE⟩
      case round =>
        clear hbr ho hE
        obtain ⟨e, he0, he1, rfl, hR, ho, hbr, hE⟩ := hrel
        replace ho := hid ho
        have hBl := hbr.lt
        by_cases hes : e < 80 ∧ sameRow 80 (rowG g e) (rowG g y) = true
        · obtain ⟨he8, hs⟩ := hes
          have heI : (e : Int) < 80 := by omega
          have hR2 : Hid (rowEnd g ((y : Int) - 40) ((y : Int) - 40 + 1) = rowEnd g ((y : Int) - 40) (((e + 1 : Nat) : Int) - 40)) := by
            show _ = _
            rw [hR.out, rowEnd_same (by omega) ((sameRow_runs hy8 he8).1 hs), show (((e + 1 : Nat) : Int) - 40) = (e : Int) - 40 + 1 by omega]
          have r1 := rowG_range hbr he8
          have r2 := rowG_range hbr hy8
          replace hbr := hid hbr
          go_wp2
          refine wp_region_later (by kernel_rfl) (by kernel_rfl) ?_
          repeat (go_big_quiet_step (fail))
          go_big_quiet_want
          refine quiet_load_row _ _ rfl B (e * 80) rfl (bools 80 (rowG g e)) _ (fun W hW => by obtain ⟨p, rfl⟩ := hW; exact rangeLater r1 p hBl) Try.underlying138 rfl (by rw [bools_len]; exact infoRow) ?_
          go_simp
          go_big_quiet_on
          repeat (go_big_quiet_step (fail))
          go_big_quiet_want
          refine quiet_load_row _ _ rfl B (y * 80) rfl (bools 80 (rowG g y)) _ (fun W hW => by obtain ⟨p, rfl⟩ := hW; exact rangeLater r2 p hBl) Try.underlying138 rfl (by rw [bools_len]; exact infoRow) ?_
          go_simp
          go_big_quiet_on
          go_big_quiet_want
          refine quiet_eql_row _ _ _ _ rfl _ _ rfl rfl Try.underlying138 hib Try.underlying4 cellsBool guardRow ?_
          rw [hs]
          go_simp
          go_big_quiet_on
          repeat (go_big_quiet_step (fail))
          refine wpQuiet_nil ?_
          rintro w2 ⟨⟨_, E2⟩, rfl⟩
          clear r1 r2 hs
          have ho2 := hid (owns_ext ho.out E2)
          have hb2 := hid (hbr.out.ext E2)
          have hE2 := hid (hE.trans E2)
          clear ho hbr hE E2
          go_wp2
          go_roundw
          case rel => exact ⟨e + 1, by omega, by omega, by go_num, hR2, ho2.out, hb2.out, hE2.out⟩
          case measure => simp [intOf]; omega
        · have hEnd : Hid (rowEnd g ((y : Int) - 40) ((y : Int) - 40 + 1) = (e : Int) - 40) := by
            show _ = _
            rw [hR.out]
            apply rowEnd_stop
            by_cases he8 : e < 80
            · right; intro h; exact hes ⟨he8, (sameRow_runs hy8 he8).2 h⟩
            · left; omega
          replace hes := hid hes
          clear hR
          by_cases he8 : e < 80
          case' pos =>
            have heI : (e : Int) < 80 := by omega
            have hs : Hid (sameRow 80 (rowG g e) (rowG g y) = false) := by
              show _ = _
              rw [← Bool.not_eq_true]; exact fun h => hes.out ⟨he8, h⟩
            have r1 := rowG_range hbr he8
            have r2 := rowG_range hbr hy8
            replace hbr := hid hbr
            clear hes
            go_wp2
            refine wp_region_later (by kernel_rfl) (by kernel_rfl) ?_
            repeat (go_big_quiet_step (fail))
            go_big_quiet_want
            refine quiet_load_row _ _ rfl B (e * 80) rfl (bools 80 (rowG g e)) _ (fun W hW => by obtain ⟨p, rfl⟩ := hW; exact rangeLater r1 p hBl) Try.underlying138 rfl (by rw [bools_len]; exact infoRow) ?_
            go_simp
            go_big_quiet_on
            repeat (go_big_quiet_step (fail))
            go_big_quiet_want
            refine quiet_load_row _ _ rfl B (y * 80) rfl (bools 80 (rowG g y)) _ (fun W hW => by obtain ⟨p, rfl⟩ := hW; exact rangeLater r2 p hBl) Try.underlying138 rfl (by rw [bools_len]; exact infoRow) ?_
            go_simp
            go_big_quiet_on
            go_big_quiet_want
            refine quiet_eql_row _ _ _ _ rfl _ _ rfl rfl Try.underlying138 hib Try.underlying4 cellsBool guardRow ?_
            rw [hs.out]
            go_simp
            go_big_quiet_on
            repeat (go_big_quiet_step (fail))
            refine wpQuiet_nil ?_
            rintro w2 ⟨⟨_, E2⟩, rfl⟩
            clear r1 r2 hs heI
            have ho2 := hid (owns_ext ho.out E2)
            have hb2 := hid (hbr.out.ext E2)
            have hE2 := hid (hE.trans E2)
            clear ho hbr hE E2 hBl he8
            go_wp2
          case' neg =>
            have heI : ¬ (e : Int) < 80 := by omega
            have hd : decide ((e : Int) < 80) = false := by simpa using heI
            replace hbr := hid hbr
            clear hes
            go_wp2
            refine wp_region_later (by kernel_rfl) (by kernel_rfl) ?_
            repeat (go_big_quiet_step (fail))
            refine wpQuiet_nil ?_
            rintro w2 ⟨⟨_, E2⟩, rfl⟩
            have ho2 := hid (owns_ext ho.out E2)
            have hb2 := hid (hbr.out.ext E2)
            have hE2 := hid (hE.trans E2)
            clear ho hbr hE E2 hBl he8 heI hd
            go_wp2
          all_goals
            have hRest0 : Hid (Rest g ((y : Int) - 40) ((e : Int) - 40) (((0 : Nat) : Int) - 40) out) := Rest.start hC.out (by omega) hEnd.out
            have hgh0 : Hid (gh g (((0 : Nat) : Int) - 40 - 1) ((y : Int) - 40) = false) := gh_small (by omega)
            replace hb2 := hb2.out
            clear hEnd hC
            go_loopw [3, 6] (AtCol B g w y e) (fun _ i _ => 81 - (intOf i).toNat)
            case atStart => exact ⟨0, out, q, c, by omega, rfl, rfl, hRest0, hgh0, ho2.out, hb2, hE2.out⟩
            case round =>
              clear ho2 hb2 hE2
              obtain ⟨x, out, q, c, hx, rfl, rfl, hRest, hgh, ho, hb, hE⟩ := hrel
              have hBl := hb.lt
              have hlen : out.length ≤ 3200 := by
                have := hRest.out
                have h2 := canon_len g
                rw [Rest] at this
                rw [this] at h2
                simp at h2
                omega
              by_cases hx8 : x < 80
              · have hxI : (x : Int) < 80 := by omega
                have z0 := hb.cells (y * 80 + x)
                rw [gcells_get _ (by omega)] at z0
                cases hc : g (y * 80 + x) with
                | false =>
                  rw [hc] at z0
                  have hg1 : gh g ((x : Int) - 40) ((y : Int) - 40) = false := by rw [gh_nat hx8 hy8, hc]
                  have hRest1 : Hid (Rest g ((y : Int) - 40) ((e : Int) - 40) (((x + 1 : Nat) : Int) - 40) out) := by
                    show Rest _ _ _ _ _
                    rw [show (((x + 1 : Nat) : Int) - 40) = (x : Int) - 40 + 1 by omega]
                    exact hRest.out.skip hg1 hgh.out
                  have hgh1 : Hid (gh g (((x + 1 : Nat) : Int) - 40 - 1) ((y : Int) - 40) = false) := by
                    show _ = _
                    rw [show (((x + 1 : Nat) : Int) - 40 - 1) = (x : Int) - 40 by omega]
                    exact hg1
                  clear hc hg1
                  replace ho := hid ho
                  replace hb := hid hb
                  go_wp2
                  go_roundw
                  case rel => exact ⟨x + 1, out, q, c, by omega, rfl, by go_num, hRest1, hgh1, ho.out, hb.out, hE⟩
                  case measure => simp [intOf]; omega
                | true =>
                  rw [hc] at z0
                  have hg1 : Hid (gh g ((x : Int) - 40) ((y : Int) - 40) = true) := by show _ = _; rw [gh_nat hx8 hy8, hc]
                  clear hc
                  replace ho := hid ho
                  replace hb := hid hb
                  go_wp2
                  go_loop [6] (fun i => ∃ s : Nat, x ≤ s ∧ s ≤ 80 ∧ i = .int .i64 s ∧ Hid (x < s → InRun g ((y : Int) - 40) ((x : Int) - 40) ((s : Int) - 40))) (fun i => 81 - (intOf i).toNat)
                  case atStart => exact ⟨x, by omega, by omega, rfl, fun h => by omega⟩
                  case round =>
                    obtain ⟨s, hs0, hs1, rfl, hI⟩ := hrel
                    by_cases hsc : s < 80 ∧ g (y * 80 + s) = true
                    · obtain ⟨hs8, hc⟩ := hsc
                      have hsI : (s : Int) < 80 := by omega
                      have z1 := hb.out.cells (y * 80 + s)
                      rw [gcells_get _ (by omega), hc] at z1
                      have hg2 : gh g ((s : Int) - 40) ((y : Int) - 40) = true := by rw [gh_nat hs8 hy8, hc]
                      have hI1 : Hid (x < s + 1 → InRun g ((y : Int) - 40) ((x : Int) - 40) (((s + 1 : Nat) : Int) - 40)) := by
                        intro _
                        rw [show (((s + 1 : Nat) : Int) - 40) = (s : Int) - 40 + 1 by omega]
                        by_cases hsx : x < s
                        · exact (hI.out hsx).go hg2
                        · have : s = x := by omega
                          subst this
                          exact InRun.start (by omega) hg2 hgh.out
                      clear hc hg2 z0
                      go_wp2
                      go_round
                      case rel => exact ⟨s + 1, by omega, by omega, by go_num, hI1⟩
                      case measure => simp [intOf]; omega
                    · have hxs : x < s := by
                        rcases Nat.lt_or_ge x s with h | h
                        · exact h
                        · exfalso
                          have : s = x := by omega
                          subst this
                          have := hg1.out
                          rw [gh_nat hx8 hy8] at this
                          exact hsc ⟨hx8, this⟩
                      have hg2 : gh g ((s : Int) - 40) ((y : Int) - 40) = false := by
                        by_cases hs8 : s < 80
                        · rw [gh_nat hs8 hy8]
                          rw [← Bool.not_eq_true]
                          exact fun h => hsc ⟨hs8, h⟩
                        · exact gh_big (by omega)
                      have hRest1 : Hid (Rest g ((y : Int) - 40) ((e : Int) - 40) (((s + 1 : Nat) : Int) - 40) (out ++ [⟨(x : Int) - 40, (y : Int) - 40, (s : Int) - 40, (e : Int) - 40⟩])) := by
                        show Rest _ _ _ _ _
                        rw [show (((s + 1 : Nat) : Int) - 40) = (s : Int) - 40 + 1 by omega]
                        exact (hI.out hxs).stop hRest.out (by omega) hg2
                      have hgh1 : Hid (gh g (((s + 1 : Nat) : Int) - 40 - 1) ((y : Int) - 40) = false) := by
                        show _ = _
                        rw [show (((s + 1 : Nat) : Int) - 40 - 1) = (s : Int) - 40 by omega]
                        exact hg2
                      clear hg2 hRest hgh hI hg1 z0
                      have hNl := hE.le
                      by_cases hs8 : s < 80
                      case' pos =>
                        have hsI : (s : Int) < 80 := by omega
                        have hc : g (y * 80 + s) = false := by
                          rw [← Bool.not_eq_true]
                          exact fun h => hsc ⟨hs8, h⟩
                        have z1 := hb.out.cells (y * 80 + s)
                        rw [gcells_get _ (by omega), hc] at z1
                        clear hc
                      case' neg =>
                        have hsI : ¬ (s : Int) < 80 := by omega
                      all_goals
                        replace hsc := hid hsc
                        go_wp2_with (at_builtin; refine wpList_append_own _ rfl _ _ 42 rfl w.heap.size 49 i0 (.agg #[.int .i64 0, .int .i64 0, .int .i64 0, .int .i64 0]) 4 32 Try.underlying42 hi hz0 hz1 hz2 rfl (by omega) _ _ _ rfl (ho.out.alloc _) ⟨_, 0, none⟩ 1 1 [.int .i64 ((x : Int) - 40), .int .i64 ((y : Int) - 40), .int .i64 ((s : Int) - 40), .int .i64 ((e : Int) - 40)] rfl rfl (cells_new _ [_, _, _, _] _) (one_int4 _ _ _ _) (by unfold maxLen; omega) (by omega) (by simp; omega) ?_; intro v' w1 ho' hg' _; obtain ⟨qa, ca, rfl⟩ := owns_forms ho'; have hE1 := hid ((hE.alloc _).grown hg' (fun k hk => (ho.out.lt k hk).1)); replace ho' := hid ho'; clear hg')
                        go_roundw
                        case rel => exact ⟨s + 1, out ++ [⟨(x : Int) - 40, (y : Int) - 40, (s : Int) - 40, (e : Int) - 40⟩], qa, ca, by omega, by rw [List.length_append]; rfl, by go_num, hRest1, hgh1, by rw [List.length_append, List.flatMap_append]; exact ho'.out, hbw.out.ext hE1.out, hE1.out⟩
                        case measure => simp [intOf]; omega
              · have hxI : ¬ (x : Int) < 80 := by omega
                have hC : canon g = out ++ canonY g ((e : Int) - 40) := Rest.done hRest.out (by omega) hgh.out
                have hA := hid (show AtRow B g w (.slice q out.length c) (.int .i64 e) wr from ⟨e, out, q, c, by omega, rfl, rfl, hC, ho, hb, hE⟩)
                clear hRest hgh hC ho hb hE
                go_wp2
                go_roundw
                case rel => exact hA.out
                case measure => simp [intOf]; omega
    · have hyI : ¬ (y : Int) < 80 := by omega
      have hCl : Hid (out = canon g) := by show _ = _; rw [hC.out, canonY_stop (by omega), List.append_nil]
      clear hC
      go_wp2
      go_ret
      rw [← hCl.out]
      exact ⟨q, c, rfl, ho.out, hE⟩
end Go.Proofs.Ytiljojpnbpdaeaa
