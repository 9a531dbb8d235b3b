/- Validity of lists of waivers, program and reference. Condition: lengths that fit. -/
import Derived.Test.YtajlkanocngdfaaGreatVlb
import Derived.BigRegion
namespace Go.Proofs.YtajlkanocngdfaaGreat
open Go.RowKit Go.PlainAid

/-- The waiver at k is valid and its signature is above that before it. -/
def wvOk (l : List WvD) (k : Nat) : Bool := match l[k]? with | some y => wvB y && (match k with | 0 => true | j + 1 => match l[j]? with | some z => decide (z.a < y.a) | none => true) | none => true
def wlB (l : List WvD) : Bool := decide (l.length ≤ 16) && (List.range l.length).all (wvOk l)
theorem wvOk_bad {l : List WvD} {k : Nat} {y : WvD} (hx : l[k]? = some y) (h : wvB y = false) : wvOk l k = false := by
  rw [wvOk, hx]; simp only [h]; rfl
theorem wvOk_0 {l : List WvD} {y : WvD} (hx : l[0]? = some y) (h : wvB y = true) : wvOk l 0 = true := by
  rw [wvOk, hx]; simp only [h]; rfl
theorem wvOk_s {l : List WvD} {j : Nat} {y z : WvD} (hx : l[j + 1]? = some y) (hz : l[j]? = some z) (h : wvB y = true) : wvOk l (j + 1) = decide (z.a < y.a) := by
  rw [wvOk, hx]; simp only [h, hz]; rfl

set_option maxRecDepth 100000 in
set_option maxHeartbeats 4000000 in
theorem pWaivers_any (p : Option Addr) (n c base : Nat) (l : List WvD) (w : World) (h : SlD (Fl encWv) 2 base w p n l) (hn : n ≤ 9223372036854775807) (hf : ∀ x ∈ l, x.s.size ≤ 9223372036854775807) :
    Calls Tryz.prog 23 #[.slice p n c] w fun e w' => e = .returned (.bool (wlB l)) ∧ Ext w w' := by
  have hf := hid hf
  have hl := hid h.length
  go_enter Tryz.func23, Tryz.ntmps23
  go_wp2_with (fail)
  go_loopw [3, 4, 7] (fun _ _ i wr => ∃ k : Nat, k ≤ n ∧ i = .int .i64 k ∧ Ext w wr ∧ Hid (∀ j, j < k → wvOk l j = true)) (fun _ _ i _ => n - (intOf i).toNat)
  case atStart => exact ⟨0, by omega, rfl, Ext.refl _, fun j hj => by omega⟩
  case round =>
    obtain ⟨k, hk, rfl, E, hA⟩ := hrel
    by_cases hlt : k < n
    · have hltI : (k : Int) < n := by omega
      obtain ⟨b, off, y, cs, rfl, hb, hy, hcs, hc⟩ := (h.ext okWaiver E).get (show k < n by omega)
      obtain rfl : cs = encWv y := hcs
      have y0 := hc 0 _ rfl
      rw [Nat.add_zero] at y0
      have y1 := hc 1 _ rfl
      clear hc
      have hfy := hid (hf.out y (List.mem_of_getElem? hy.out))
      go_upto_region 4 with (fail)
      generalize hV : World.alloc _ _ = W1
      obtain ⟨E1, zz, b1⟩ := boxes1 hV
      clear hV zz
      replace b1 := hid (show Blk W1 wr.heap.size [_, _] _ from b1)
      clear y0 y1
      replace E := E.trans E1
      replace hb := Nat.lt_of_lt_of_le hb E1.le
      have g1 := b1.out.cells
      have l1 := b1.out.lt
      have hc1 : ∀ P : Later W1, Calls Tryz.prog 53 #[.agg #[.int .i64 y.a, .string y.s]] P.val fun e w' => e = .returned (.bool (wvB y)) ∧ Ext P.val w' := fun P => pWaiver_any y P.val hfy.out
      cases hq : wvB y with
      | false =>
        have a1 : (List.range l.length).all (wvOk l) = false := range_no (by rw [hl.out]; exact hlt) (wvOk_bad hy.out hq)
        have hr : Hid (false = wlB l) := by show _ = _; unfold wlB; rw [a1]; simp
        clear a1
        rw [hq] at hc1
        clear hq
        replace hc1 := hid hc1
        refine wp_region_later (by kernel_rfl) (by kernel_rfl) ?_
        repeat (go_big_quiet_step ((go_at_call 53; exact later_of (hc1.out _))))
        refine wpQuiet_nil ?_
        rintro w7 ⟨⟨_, h7⟩, rfl⟩
        go_wp2
        go_ret
        exact ⟨ret_bool hr.out, E.trans h7⟩
      | true =>
        rw [hq] at hc1
        replace hc1 := hid hc1
        by_cases hk0 : k = 0
        · have hr : Hid (wvOk l k = true) := by subst hk0; exact wvOk_0 hy.out hq
          have i0 : ¬ ((0 : Int) < (k : Int)) := by omega
          have i3 : decide (0 < k) = false := decide_eq_false (by omega)
          replace hk0 := hid hk0
          clear hq
          refine wp_region_later (by kernel_rfl) (by kernel_rfl) ?_
          repeat (go_big_quiet_step ((go_at_call 53; exact later_of (hc1.out _))))
          refine wpQuiet_nil ?_
          rintro w7 ⟨⟨_, h7⟩, rfl⟩
          go_wp2
          go_roundw
          case rel =>
            refine ⟨k + 1, by omega, by go_num, E.trans h7, fun i hi => ?_⟩
            by_cases hjk : i = k
            · subst hjk; exact hr.out
            · exact hA.out i (by omega)
          case measure => simp [intOf]; omega
        · obtain ⟨j, rfl⟩ : ∃ j, k = j + 1 := ⟨k - 1, by omega⟩
          clear hk0
          obtain ⟨b', off', z, cs, hbb, _, hz, hcs, hc⟩ := (h.ext okWaiver E).get (show j < n by omega)
          cases hbb
          obtain rfl : cs = encWv z := hcs
          have z0 := hc 0 _ rfl
          rw [Nat.add_zero] at z0
          clear hc
          have hs := wvOk_s hy.out hz.out hq
          have i0 : (0 : Int) < ((j + 1 : Nat) : Int) := by omega
          have i1 : (j : Int) < n := by omega
          have i3 : decide (0 < j + 1) = true := decide_eq_true (by omega)
          clear hq
          by_cases hza : z.a < y.a
          · rw [decide_eq_true hza] at hs
            have hr := hid hs
            have i2 : ¬ (y.a ≤ z.a) := by omega
            clear hs
            refine wp_region_later (by kernel_rfl) (by kernel_rfl) ?_
            repeat (go_big_quiet_step ((go_at_call 53; exact later_of (hc1.out _))))
            refine wpQuiet_nil ?_
            rintro w7 ⟨⟨_, h7⟩, rfl⟩
            go_wp2
            go_roundw
            case rel =>
              refine ⟨(j + 1) + 1, by omega, by go_num, E.trans h7, fun i hi => ?_⟩
              by_cases hjk : i = (j + 1)
              · subst hjk; exact hr.out
              · exact hA.out i (by omega)
            case measure => simp [intOf]; omega
          · rw [decide_eq_false hza] at hs
            have a1 : (List.range l.length).all (wvOk l) = false := range_no (by rw [hl.out]; exact hlt) (hs)
            have hr : Hid (false = wlB l) := by show _ = _; unfold wlB; rw [a1]; simp
            clear a1
            have i2 : y.a ≤ z.a := by omega
            clear hs
            refine wp_region_later (by kernel_rfl) (by kernel_rfl) ?_
            repeat (go_big_quiet_step ((go_at_call 53; exact later_of (hc1.out _))))
            refine wpQuiet_nil ?_
            rintro w7 ⟨⟨_, h7⟩, rfl⟩
            go_wp2
            go_ret
            exact ⟨ret_bool hr.out, E.trans h7⟩
    · have a1 : (List.range l.length).all (wvOk l) = true := range_yes fun j hj => hA.out j (by have := hl.out; omega)
      have hr : Hid (decide ((n : Int) ≤ 16) = wlB l) := by
        show _ = _
        have := hl.out
        unfold wlB
        rw [a1, this]
        simp
        omega
      clear a1
      go_wp2_with (fail)
      go_ret
      exact ⟨ret_bool hr.out, E⟩

set_option maxRecDepth 100000 in
set_option maxHeartbeats 4000000 in
theorem rWaivers_any (p : Option Addr) (n c base : Nat) (l : List WvD) (w : World) (h : SlD (Fl encWv) 2 base w p n l) (hn : n ≤ 9223372036854775807) (hf : ∀ x ∈ l, x.s.size ≤ 9223372036854775807) :
    Calls Tryz.prog 15 #[.slice p n c] w fun e w' => e = .returned (.bool (wlB l)) ∧ Ext w w' := by
  have hf := hid hf
  have hl := hid h.length
  by_cases m2 : 16 < n
  · have z2 : (16 : Int) < n := by omega
    have d2 : decide (l.length ≤ 16) = false := decide_eq_false (by have := hl.out; omega)
    have hr : Hid (false = wlB l) := by show _ = _; unfold wlB; rw [d2]; rfl
    clear d2
    go_enter Tryz.func15, Tryz.ntmps15
    go_wp2_with (fail)
    go_ret
    exact ⟨ret_bool hr.out, Ext.refl _⟩
  have d2 : Hid (decide (l.length ≤ 16) = true) := decide_eq_true (by have := hl.out; omega)
  go_enter Tryz.func15, Tryz.ntmps15
  go_wp2_with (fail)
  go_loopw [3] (fun i wr => ∃ k : Nat, k ≤ n ∧ i = .int .i64 k ∧ Ext w wr ∧ Hid (∀ j, j < k → wvOk l j = true)) (fun i _ => n - (intOf i).toNat)
  case atStart => exact ⟨0, by omega, rfl, Ext.refl _, fun j hj => by omega⟩
  case round =>
    obtain ⟨k, hk, rfl, E, hA⟩ := hrel
    by_cases hlt : k < n
    · have hltI : (k : Int) < n := by omega
      obtain ⟨b, off, y, cs, rfl, hb, hy, hcs, hc⟩ := (h.ext okWaiver E).get (show k < n by omega)
      obtain rfl : cs = encWv y := hcs
      have y0 := hc 0 _ rfl
      rw [Nat.add_zero] at y0
      have y1 := hc 1 _ rfl
      clear hc
      have hfy := hid (hf.out y (List.mem_of_getElem? hy.out))
      go_wp2_with (fail)
      have hc1 : ∀ P : Later wr, Calls Tryz.prog 39 #[.agg #[.int .i64 y.a, .string y.s]] P.val fun e w' => e = .returned (.bool (wvB y)) ∧ Ext P.val w' := fun P => rWaiver_any y P.val hfy.out
      cases hq : wvB y with
      | false =>
        have a1 : (List.range l.length).all (wvOk l) = false := range_no (by rw [hl.out]; exact hlt) (wvOk_bad hy.out hq)
        have hr : Hid (false = wlB l) := by show _ = _; unfold wlB; rw [a1]; simp
        clear a1
        rw [hq] at hc1
        clear hq
        replace hc1 := hid hc1
        refine wp_region_later (by kernel_rfl) (by kernel_rfl) ?_
        repeat (go_big_quiet_step ((go_at_call 39; exact later_of (hc1.out _))))
        refine wpQuiet_nil ?_
        rintro w7 ⟨⟨_, h7⟩, rfl⟩
        go_wp2
        go_ret
        exact ⟨ret_bool hr.out, E.trans h7⟩
      | true =>
        rw [hq] at hc1
        replace hc1 := hid hc1
        by_cases hk0 : k = 0
        · have hr : Hid (wvOk l k = true) := by subst hk0; exact wvOk_0 hy.out hq
          have i0 : ¬ ((0 : Int) < (k : Int)) := by omega
          have i3 : decide (0 < k) = false := decide_eq_false (by omega)
          replace hk0 := hid hk0
          clear hq
          refine wp_region_later (by kernel_rfl) (by kernel_rfl) ?_
          repeat (go_big_quiet_step ((go_at_call 39; exact later_of (hc1.out _))))
          refine wpQuiet_nil ?_
          rintro w7 ⟨⟨_, h7⟩, rfl⟩
          go_wp2
          go_roundw
          case rel =>
            refine ⟨k + 1, by omega, by go_num, E.trans h7, fun i hi => ?_⟩
            by_cases hjk : i = k
            · subst hjk; exact hr.out
            · exact hA.out i (by omega)
          case measure => simp [intOf]; omega
        · obtain ⟨j, rfl⟩ : ∃ j, k = j + 1 := ⟨k - 1, by omega⟩
          clear hk0
          obtain ⟨b', off', z, cs, hbb, _, hz, hcs, hc⟩ := (h.ext okWaiver E).get (show j < n by omega)
          cases hbb
          obtain rfl : cs = encWv z := hcs
          have z0 := hc 0 _ rfl
          rw [Nat.add_zero] at z0
          clear hc
          have hs := wvOk_s hy.out hz.out hq
          have i0 : (0 : Int) < ((j + 1 : Nat) : Int) := by omega
          have i1 : (j : Int) < n := by omega
          have i3 : decide (0 < j + 1) = true := decide_eq_true (by omega)
          clear hq
          by_cases hza : z.a < y.a
          · rw [decide_eq_true hza] at hs
            have hr := hid hs
            have i2 : ¬ (y.a ≤ z.a) := by omega
            clear hs
            refine wp_region_later (by kernel_rfl) (by kernel_rfl) ?_
            repeat (go_big_quiet_step ((go_at_call 39; exact later_of (hc1.out _))))
            refine wpQuiet_nil ?_
            rintro w7 ⟨⟨_, h7⟩, rfl⟩
            go_wp2
            go_roundw
            case rel =>
              refine ⟨(j + 1) + 1, by omega, by go_num, E.trans h7, fun i hi => ?_⟩
              by_cases hjk : i = (j + 1)
              · subst hjk; exact hr.out
              · exact hA.out i (by omega)
            case measure => simp [intOf]; omega
          · rw [decide_eq_false hza] at hs
            have a1 : (List.range l.length).all (wvOk l) = false := range_no (by rw [hl.out]; exact hlt) (hs)
            have hr : Hid (false = wlB l) := by show _ = _; unfold wlB; rw [a1]; simp
            clear a1
            have i2 : y.a ≤ z.a := by omega
            clear hs
            refine wp_region_later (by kernel_rfl) (by kernel_rfl) ?_
            repeat (go_big_quiet_step ((go_at_call 39; exact later_of (hc1.out _))))
            refine wpQuiet_nil ?_
            rintro w7 ⟨⟨_, h7⟩, rfl⟩
            go_wp2
            go_ret
            exact ⟨ret_bool hr.out, E.trans h7⟩
    · have a1 : (List.range l.length).all (wvOk l) = true := range_yes fun j hj => hA.out j (by have := hl.out; omega)
      have hr : Hid (true = wlB l) := by show _ = _; unfold wlB; rw [a1, d2.out]; rfl
      clear a1
      go_wp2_with (fail)
      go_ret
      exact ⟨ret_bool hr.out, E⟩

end Go.Proofs.YtajlkanocngdfaaGreat
