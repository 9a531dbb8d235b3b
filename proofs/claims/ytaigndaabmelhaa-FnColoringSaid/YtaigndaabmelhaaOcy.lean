/- Contracts of OddCycle, of the program and of the reference; the law FnExactOddCycle. Condition: at most 2^20 rectangles. -/
import Derived.Test.YtaigndaabmelhaaCyt
import Derived.Test.YtaigndaabmelhaaClp
namespace Go.Proofs.Ytaigndaabmelhaa
open Go.RowKit

/-- The code of OddCycle, and its cycle. -/
def ocT (l : List Q4) (s : Int) : List Nat := ocL (tabL (ptL l s) s) (ptL l s).length
def ocC (l : List Q4) (s : Int) : Int := if ptC l s = 0 then (if cpO l s = true then 5 else if ocT l s = [] then 5 else 0) else ptC l s
def ocV (l : List Q4) (s : Int) : List Nat := if ptC l s = 0 then (if cpO l s = true then [] else ocT l s) else []
theorem ocC_no {l : List Q4} {s : Int} (h : ¬ ptC l s = 0) : ocC l s = ptC l s ∧ ocV l s = [] := ⟨by rw [ocC, if_neg h], by rw [ocV, if_neg h]⟩
theorem ocC_col {l : List Q4} {s : Int} (h : ptC l s = 0) (h2 : cpO l s = true) : ocC l s = 5 ∧ ocV l s = [] := ⟨by rw [ocC, if_pos h, if_pos h2], by rw [ocV, if_pos h, if_pos h2]⟩
theorem ocC_none {l : List Q4} {s : Int} (h : ptC l s = 0) (h2 : cpO l s = false) (h3 : ocT l s = []) : ocC l s = 5 ∧ ocV l s = [] := ⟨by rw [ocC, if_pos h, if_neg (by rw [h2]; simp), if_pos h3], by rw [ocV, if_pos h, if_neg (by rw [h2]; simp), h3]⟩
theorem ocC_some {l : List Q4} {s : Int} (h : ptC l s = 0) (h2 : cpO l s = false) (h3 : ocT l s ≠ []) : ocC l s = 0 ∧ ocV l s = ocT l s := ⟨by rw [ocC, if_pos h, if_neg (by rw [h2]; simp), if_neg h3], by rw [ocV, if_pos h, if_neg (by rw [h2]; simp)]⟩
theorem ocV_len (l : List Q4) (s : Int) : (ocV l s).length ≤ 1048576 := by
  have h2 := ptL_len l s
  rw [ocV]; split
  · split
    · simp
    · by_cases h : ocT l s = []
      · rw [h]; simp
      · have := (ocL_sound h).2.2.2
        rw [ocT]; omega
  · simp
def NatcB (L : List Nat) (C : Int) (w : World) (e : Ending) (w' : World) : Prop := ∃ (q : Option Addr) (c : Nat), e = .returned (.tuple #[.slice q L.length c, .int .i64 C]) ∧ w'.ownsRow w.heap.size 2 1 (.slice q L.length c) L.length (L.flatMap encN) ∧ Ext w w'
theorem NatcB.intc {L : List Nat} {C : Int} {w w' : World} {e : Ending} (h : NatcB L C w e w') : ∃ p0 d0, e = .returned (.tuple #[.slice p0 L.length d0, .int .i64 C]) ∧ w'.ownsRow w.heap.size 2 1 (.slice p0 L.length d0) L.length ((L.map fun (x : Nat) => (x : Int)).flatMap enc1) ∧ Ext w w' := by
  obtain ⟨q, c, h1, h2, h3⟩ := h
  refine ⟨q, c, h1, ?_, h3⟩
  rw [List.flatMap_map]
  exact h2
theorem own_one (w : World) (f : Nat) : (w.alloc (.cells #[.int .i64 f] 2)).ownsRow w.heap.size 2 1 (.slice (some ⟨w.heap.size, 0, none⟩) (0 + 1) 1) (0 + 1) ([f].flatMap encN) :=
  owns_blk (n := 1) (size := 1) (cs := [.int .i64 f]) (heap_new w (.cells #[.int .i64 f] 2)) (Nat.le_refl _) rfl (by simp [maxLen])
def ocF (T : List (List Bool)) (n j : Nat) : List Nat := fne (fun f => cycP (edg T) n (2 * j + 2) [f]) 0 n
theorem ocL_eq (T : List (List Bool)) (n : Nat) : ocL T n = fne (ocF T n) 0 ((n - 1) / 2) := rfl
set_option maxRecDepth 100000 in
set_option maxHeartbeats 8000000 in
theorem OddCycle_any (q : Option Addr) (n c : Nat) (l : List Q4) (s : Int) (w : World) (h : SlT enc4 4 w q n l) (hn : n ≤ 1048576) :
    Calls Try.prog 27 #[.slice q n c, .int .i64 s] w (NatcB (ocV l s) (ocC l s) w) := by
  have hp := hid (patternTable_any q n c l s w h hn)
  have hpl := ptL_len l s
  by_cases h0 : ptC l s = 0
  · have hrows := hid (tabL_rows2 (ptL l s) s)
    obtain ⟨T, hT⟩ : ∃ T, T = tabL (ptL l s) s := ⟨_, rfl⟩
    obtain ⟨m, hm⟩ : ∃ m, m = (ptL l s).length := ⟨_, rfl⟩
    rw [← hT, ← hm] at hrows
    cases hb : cpO l s with
    | true =>
      have hcc := hid (ocC_col h0 hb)
      have hbb : Hid (okC T m = true) := by show _ = _; rw [hT, hm]; exact hb
      go_enter Try.func27, Try.ntmps27
      go_wp2_with fail
      refine hp.out.mono ?_
      rintro e w1 ⟨q1, c1, q2, c2, rfl, r1, r2, E1⟩
      rw [h0]
      rw [← hm] at r1 r2 hpl ⊢
      rw [← hT] at r2
      replace r2 := hid r2
      replace E1 := hid E1
      replace hT := hid hT
      replace hm := hid hm
      replace h0 := hid h0
      replace hb := hid hb
      clear r1
      go_wp2_with fail
      refine (colored_any q2 m c2 T _ r2.out (by omega) hrows.out).mono ?_
      rintro e w2 ⟨q5, c5, rfl, o5, E2⟩
      rw [hbb.out]
      replace o5 := hid o5
      have hE := hid (E1.out.trans E2)
      replace r2 := hid (r2.out.ext E2)
      have hTl := hid r2.out.length
      clear E2
      go_wp2_with fail
      go_ret2
      rw [NatcB, hcc.out.1, hcc.out.2]
      exact ⟨none, 0, rfl, World.ownsRow_nil _ _ _ _, hE.out⟩
    | false =>
      have hbb : Hid (okC T m = false) := by show _ = _; rw [hT, hm]; exact hb
      have hoc : Hid (ocT l s = fne (ocF T m) 0 ((m - 1) / 2 - 0)) := by show _ = _; rw [ocT, ← hT, ← hm, ocL_eq]; rfl
      go_enter Try.func27, Try.ntmps27
      go_wp2_with fail
      refine hp.out.mono ?_
      rintro e w1 ⟨q1, c1, q2, c2, rfl, r1, r2, E1⟩
      rw [h0]
      rw [← hm] at r1 r2 hpl ⊢
      rw [← hT] at r2
      replace r2 := hid r2
      replace E1 := hid E1
      replace hT := hid hT
      replace hm := hid hm
      replace h0 := hid h0
      replace hb := hid hb
      clear r1
      go_wp2_with fail
      refine (colored_any q2 m c2 T _ r2.out (by omega) hrows.out).mono ?_
      rintro e w2 ⟨q5, c5, rfl, o5, E2⟩
      rw [hbb.out]
      replace o5 := hid o5
      have hE := hid (E1.out.trans E2)
      replace r2 := hid (r2.out.ext E2)
      have hTl := hid r2.out.length
      clear E2
      go_wp2_with fail
      go_loopw [11] (fun iv wr => ∃ j : Nat, iv = .int .i64 (2 * (j : Int) + 3) ∧ j ≤ (m - 1) / 2 ∧ Hid (Ext w2 wr) ∧ Hid (ocT l s = fne (ocF T m) j ((m - 1) / 2 - j))) (fun i _ => m + 3 - (intOf i).toNat)
      case atStart => exact ⟨0, by go_num, by omega, Ext.refl _, hoc⟩
      case round =>
        clear hoc
        obtain ⟨j, rfl, hj, hE3, hoc⟩ := hrel
        by_cases hlt : j < (m - 1) / 2
        · have hltI : 2 * (j : Int) + 3 ≤ (m : Int) := by omega
          have hjk : (m - 1) / 2 - j = ((m - 1) / 2 - (j + 1)) + 1 := by omega
          rw [hjk] at hoc
          have hF0 : Hid (ocF T m j = fne (fun f => cycP (edg T) m (2 * j + 2) [f]) 0 (m - 0)) := rfl
          go_wp2_with fail
          go_loopw [38] (fun iv wr => ∃ f : Nat, iv = .int .i64 f ∧ f ≤ m ∧ Hid (Ext w2 wr) ∧ Hid (ocF T m j = fne (fun f => cycP (edg T) m (2 * j + 2) [f]) f (m - f))) (fun i _ => m - (intOf i).toNat)
          case atStart => exact ⟨0, by go_num, by omega, hE3, hF0⟩
          case round =>
            clear hF0 hE3
            obtain ⟨f, rfl, hf, hE3, hF⟩ := hrel
            by_cases hfl : f < m
            · have hfI : (f : Int) < (m : Int) := by omega
              have hfk : m - f = (m - (f + 1)) + 1 := by omega
              rw [hfk] at hF
              have hpa := hid (Pa.one (e := edg T) (n := m) hfl)
              have o1 := hid (own_one wr f)
              have hcy := (cycle_any T m c2 q2 (by omega) hrows.out wr.heap.size (2 * j + 2) [f] (some ⟨wr.heap.size, 0, none⟩) 0 1 (2 * j + 3) _ (r2.out.ext (hE3.out.alloc (.cells #[.int .i64 f] 2))) hpa.out rfl (by omega) (by omega) o1.out (Nat.le_of_lt (alloc_lt _ _)))
              rw [show (((2 * j + 3 : Nat)) : Int) = 2 * (j : Int) + 3 by omega] at hcy
              replace hcy := hid hcy
              go_wp2_with fail
              refine (hcy.out).mono ?_
              rintro e w3 ⟨q6, c6, rfl, hq0, o6, E3⟩
              have E3 := hid ((hE3.out.alloc (.cells #[.int .i64 f] 2)).trans E3)
              have hwl := hE3.out.le
              obtain ⟨R, hR⟩ : ∃ R, R = cycP (edg T) m (2 * j + 2) [f] := ⟨_, rfl⟩
              rw [← hR] at hq0 o6 ⊢
              by_cases hR0 : R = []
              · have hq1 := hq0 hR0
                subst hq1
                have hnil := fun W => neq_nil64 W none R.length c6
                have hF2 : Hid (ocF T m j = fne (fun f => cycP (edg T) m (2 * j + 2) [f]) (f + 1) (m - (f + 1))) := by show _ = _; rw [hF.out, fne_skip (f := fun f => cycP (edg T) m (2 * j + 2) [f]) (hR.symm.trans hR0)]
                replace hR := hid hR
                replace hR0 := hid hR0
                replace o6 := hid o6
                replace hq0 := hid hq0
                clear hcy
                go_wp2_with fail
                go_roundw
                case rel => exact ⟨f + 1, by go_num, by omega, E3, hF2⟩
                case measure => simp [intOf]; omega
              · obtain ⟨B9, rfl⟩ := owns_some o6 (List.length_pos_iff.2 hR0)
                have hnil := fun W => neq_nil64 W (some ⟨B9, 0, none⟩) R.length c6
                have hF2 : ocF T m j = R := by rw [hF.out, fne_hit (f := fun f => cycP (edg T) m (2 * j + 2) [f]) (fun h9 => hR0 (hR.trans h9)), hR]
                have hval : ocT l s = R := by rw [hoc.out, fne_hit (by rw [hF2]; exact hR0), hF2]
                have hcc := hid (ocC_some h0.out hb.out (by rw [hval]; exact hR0))
                rw [hval] at hcc
                replace hR := hid hR
                replace hR0 := hid hR0
                replace hval := hid hval
                replace hF2 := hid hF2
                replace hq0 := hid hq0
                have o6 := hid (owns_lowP o6 (Nat.le_trans hE.out.le hwl))
                clear hcy
                go_wp2_with fail
                go_ret2
                rw [NatcB, hcc.out.1, hcc.out.2]
                exact ⟨_, c6, rfl, o6.out, hE.out.trans E3.out⟩
            · have hfI : ¬ (f : Int) < (m : Int) := by omega
              have hF2 : Hid (ocT l s = fne (ocF T m) (j + 1) ((m - 1) / 2 - (j + 1))) := by show _ = _; rw [hoc.out, fne_skip (by rw [hF.out, show m - f = 0 by omega]; rfl)]
              go_wp2_with fail
              go_roundw
              case rel => exact ⟨j + 1, by congr 1 <;> omega, by omega, hE3, hF2⟩
              case measure => simp [intOf]; omega
        · have hltI : ¬ 2 * (j : Int) + 3 ≤ (m : Int) := by omega
          have hcc := hid (ocC_none h0.out hb.out (by rw [hoc.out, show (m - 1) / 2 - j = 0 by omega]; rfl))
          go_wp2_with fail
          go_ret2
          rw [NatcB, hcc.out.1, hcc.out.2]
          exact ⟨none, 0, rfl, World.ownsRow_nil _ _ _ _, hE.out.trans hE3.out⟩
  · have hB2 : (ptC l s == 0) = false := by simpa using h0
    have hB3 : (ptC l s != 0) = true := by simp [h0]
    have hcc := hid (ocC_no h0)
    obtain ⟨C, hC⟩ : ∃ C, C = ptC l s := ⟨_, rfl⟩
    rw [← hC] at h0 hB2 hB3
    go_enter Try.func27, Try.ntmps27
    go_wp2_with fail
    refine hp.out.mono ?_
    rintro e w1 ⟨q1, c1, q2, c2, rfl, r1, r2, E1⟩
    rw [← hC]
    replace hC := hid hC
    replace r1 := hid r1
    replace r2 := hid r2
    go_wp2_with fail
    go_ret2
    rw [NatcB, hcc.out.1, hcc.out.2, ← hC.out]
    exact ⟨none, 0, rfl, World.ownsRow_nil _ _ _ _, E1⟩
set_option maxRecDepth 100000 in
set_option maxHeartbeats 8000000 in
theorem specOddCycle_any (q : Option Addr) (n c : Nat) (l : List Q4) (s : Int) (w : World) (h : SlT enc4 4 w q n l) (hn : n ≤ 1048576) :
    Calls Try.prog 50 #[.slice q n c, .int .i64 s] w (NatcB (ocV l s) (ocC l s) w) := by
  have hp := hid (l33Parts_any q n c l s w h hn)
  have hpl := ptL_len l s
  by_cases h0 : ptC l s = 0
  · have hrows := hid (tabL_rows2 (ptL l s) s)
    obtain ⟨T, hT⟩ : ∃ T, T = tabL (ptL l s) s := ⟨_, rfl⟩
    obtain ⟨m, hm⟩ : ∃ m, m = (ptL l s).length := ⟨_, rfl⟩
    rw [← hT, ← hm] at hrows
    cases hb : cpO l s with
    | true =>
      have hcc := hid (ocC_col h0 hb)
      have hbb : Hid (okC T m = true) := by show _ = _; rw [hT, hm]; exact hb
      go_enter Try.func50, Try.ntmps50
      go_wp2_with fail
      refine hp.out.mono ?_
      rintro e w1 ⟨q1, c1, q2, c2, rfl, r1, r2, E1⟩
      rw [h0]
      rw [← hm] at r1 r2 hpl ⊢
      rw [← hT] at r2
      replace r2 := hid r2
      replace E1 := hid E1
      replace hT := hid hT
      replace hm := hid hm
      replace h0 := hid h0
      replace hb := hid hb
      clear r1
      go_wp2_with fail
      refine (l33Color_any q2 m c2 T _ r2.out (by omega) hrows.out).mono ?_
      rintro e w2 ⟨q5, c5, rfl, o5, E2⟩
      rw [hbb.out]
      replace o5 := hid o5
      have hE := hid (E1.out.trans E2)
      replace r2 := hid (r2.out.ext E2)
      have hTl := hid r2.out.length
      clear E2
      go_wp2_with fail
      go_ret2
      rw [NatcB, hcc.out.1, hcc.out.2]
      exact ⟨none, 0, rfl, World.ownsRow_nil _ _ _ _, hE.out⟩
    | false =>
      have hbb : Hid (okC T m = false) := by show _ = _; rw [hT, hm]; exact hb
      have hoc : Hid (ocT l s = fne (ocF T m) 0 ((m - 1) / 2 - 0)) := by show _ = _; rw [ocT, ← hT, ← hm, ocL_eq]; rfl
      go_enter Try.func50, Try.ntmps50
      go_wp2_with fail
      refine hp.out.mono ?_
      rintro e w1 ⟨q1, c1, q2, c2, rfl, r1, r2, E1⟩
      rw [h0]
      rw [← hm] at r1 r2 hpl ⊢
      rw [← hT] at r2
      replace r2 := hid r2
      replace E1 := hid E1
      replace hT := hid hT
      replace hm := hid hm
      replace h0 := hid h0
      replace hb := hid hb
      clear r1
      go_wp2_with fail
      refine (l33Color_any q2 m c2 T _ r2.out (by omega) hrows.out).mono ?_
      rintro e w2 ⟨q5, c5, rfl, o5, E2⟩
      rw [hbb.out]
      replace o5 := hid o5
      have hE := hid (E1.out.trans E2)
      replace r2 := hid (r2.out.ext E2)
      have hTl := hid r2.out.length
      clear E2
      go_wp2_with fail
      go_loopw [11] (fun iv wr => ∃ j : Nat, iv = .int .i64 (2 * (j : Int) + 3) ∧ j ≤ (m - 1) / 2 ∧ Hid (Ext w2 wr) ∧ Hid (ocT l s = fne (ocF T m) j ((m - 1) / 2 - j))) (fun i _ => m + 3 - (intOf i).toNat)
      case atStart => exact ⟨0, by go_num, by omega, Ext.refl _, hoc⟩
      case round =>
        clear hoc
        obtain ⟨j, rfl, hj, hE3, hoc⟩ := hrel
        by_cases hlt : j < (m - 1) / 2
        · have hltI : 2 * (j : Int) + 3 ≤ (m : Int) := by omega
          have hjk : (m - 1) / 2 - j = ((m - 1) / 2 - (j + 1)) + 1 := by omega
          rw [hjk] at hoc
          have hcy := cycleR_top T m c2 q2 (by omega) hrows.out (2 * j + 2) (2 * j + 3) _ (r2.out.ext hE3.out) rfl (by omega)
          rw [cyc_same, show (((2 * j + 3 : Nat)) : Int) = 2 * (j : Int) + 3 by omega] at hcy
          replace hcy := hid hcy
          go_wp2_with fail
          refine (hcy.out).mono ?_
          rintro e w3 ⟨q6, c6, rfl, hq0, o6, E3⟩
          have E3 := hid (hE3.out.trans E3)
          have hwl := hE3.out.le
          obtain ⟨R, hR⟩ : ∃ R, R = fne (fun f => cycP (edg T) m (2 * j + 2) [f]) 0 m := ⟨_, rfl⟩
          rw [← hR] at hq0 o6 ⊢
          by_cases hR0 : R = []
          · have hq1 := hq0 hR0
            have hF2 : Hid (ocT l s = fne (ocF T m) (j + 1) ((m - 1) / 2 - (j + 1))) := by show _ = _; rw [hoc.out, fne_skip (f := ocF T m) (hR.symm.trans hR0)]
            subst hq1
            subst hR0
            replace hR := hid hR
            replace o6 := hid o6
            replace hq0 := hid hq0
            clear hcy
            go_wp2_with fail
            go_roundw
            case rel => exact ⟨j + 1, by congr 1 <;> omega, by omega, E3, hF2⟩
            case measure => simp [intOf]; omega
          · have hRl : (0 : Int) < (R.length : Int) := by have := List.length_pos_iff.2 hR0; omega
            have hval : ocT l s = R := by rw [hoc.out, fne_hit (f := ocF T m) (fun h9 => hR0 (hR.trans h9))]; exact hR.symm
            have hcc := hid (ocC_some h0.out hb.out (by rw [hval]; exact hR0))
            rw [hval] at hcc
            replace hR := hid hR
            replace hR0 := hid hR0
            replace hval := hid hval
            replace hq0 := hid hq0
            have o6 := hid (owns_lowP o6 (Nat.le_trans hE.out.le hwl))
            clear hcy
            go_wp2_with fail
            go_ret2
            rw [NatcB, hcc.out.1, hcc.out.2]
            exact ⟨_, c6, rfl, o6.out, hE.out.trans E3.out⟩
        · have hltI : ¬ 2 * (j : Int) + 3 ≤ (m : Int) := by omega
          have hcc := hid (ocC_none h0.out hb.out (by rw [hoc.out, show (m - 1) / 2 - j = 0 by omega]; rfl))
          go_wp2_with fail
          go_ret2
          rw [NatcB, hcc.out.1, hcc.out.2]
          exact ⟨none, 0, rfl, World.ownsRow_nil _ _ _ _, hE.out.trans hE3.out⟩
  · have hB2 : (ptC l s == 0) = false := by simpa using h0
    have hB3 : (ptC l s != 0) = true := by simp [h0]
    have hcc := hid (ocC_no h0)
    obtain ⟨C, hC⟩ : ∃ C, C = ptC l s := ⟨_, rfl⟩
    rw [← hC] at h0 hB2 hB3
    go_enter Try.func50, Try.ntmps50
    go_wp2_with fail
    refine hp.out.mono ?_
    rintro e w1 ⟨q1, c1, q2, c2, rfl, r1, r2, E1⟩
    rw [← hC]
    replace hC := hid hC
    replace r1 := hid r1
    replace r2 := hid r2
    go_wp2_with fail
    go_ret2
    rw [NatcB, hcc.out.1, hcc.out.2, ← hC.out]
    exact ⟨none, 0, rfl, World.ownsRow_nil _ _ _ _, E1⟩
set_option maxRecDepth 100000 in
set_option maxHeartbeats 4000000 in
theorem lawOddCycle (q0 : Option Addr) (n0 c0 : Nat) (l0 : List Q4) (a1 : Int) (R0 : List Int) (N0 : Nat) (s1 : Int) (w : World) (h0 : SlT enc4 4 w q0 n0 l0) (m0 : n0 ≤ maxLen) (hR0 : R0.length = N0) (hN0 : N0 ≤ 1048576)
    (hS : Hid (n0 ≤ 1048576 → ∀ (W : World) (q0 : Option Addr) (c0 : Nat), SlT enc4 4 W q0 n0 l0 → Calls Try.prog 50 #[.slice q0 n0 c0, .int .i64 a1] W fun e w' => ∃ p0 d0, e = .returned (.tuple #[.slice p0 N0 d0, .int .i64 s1]) ∧ w'.ownsRow W.heap.size 2 1 (.slice p0 N0 d0) N0 (R0.flatMap enc1) ∧ Ext W w'))
    (hI : Hid (n0 ≤ 1048576 → ∀ (W : World) (q0 : Option Addr) (c0 : Nat), SlT enc4 4 W q0 n0 l0 → Calls Try.prog 27 #[.slice q0 n0 c0, .int .i64 a1] W fun e w' => ∃ p0 d0, e = .returned (.tuple #[.slice p0 N0 d0, .int .i64 s1]) ∧ w'.ownsRow W.heap.size 2 1 (.slice p0 N0 d0) N0 (R0.flatMap enc1) ∧ Ext W w')) :
    Calls Try.prog 12 #[.slice q0 n0 c0, .int .i64 a1] w fun e w' => e = .returned (.bool true) ∧ Ext w w' := by
  have e0 := hid h0.length
  unfold maxLen at m0
  replace hR0 := hid hR0
  by_cases x0 : 1048576 < (n0 : Int)
  · go_enter Try.func12, Try.ntmps12
    go_wp2_with fail
    refine (szRectS_any q0 n0 c0 _ _ (by omega) (by omega) (by omega)).mono ?_
    rintro e w' ⟨rfl, rfl⟩
    rw [if_pos (by omega)]
    go_wp2_with fail
    go_ret
    exact ⟨rfl, Ext.refl _⟩
  go_enter Try.func12, Try.ntmps12
  go_wp2_with fail
  refine (szRectS_any q0 n0 c0 _ _ (by omega) (by omega) (by omega)).mono ?_
  rintro e w' ⟨rfl, rfl⟩
  rw [if_neg (by omega)]
  have y0 := x0
  replace x0 : n0 ≤ 1048576 := by omega
  clear y0
  have F := Ext.refl w
  go_wp2_with fail
  refine (toRectS_any _ n0 _ l0 _ (h0.ext F) (by omega)).mono ?_
  rintro e w1 ⟨t0, rfl, ot0, E⟩
  replace F := F.trans E
  clear E
  go_wp2_with fail
  refine (hS.out x0 _ _ _ (SlT.of_owns enc4_len e0.out ot0)).mono ?_
  rintro e w2 ⟨u0, v0, rfl, os0, E⟩
  replace F := F.trans E
  clear E ot0
  have ss0 := SlT.of_owns (l := R0) enc1_len hR0.out os0
  clear os0
  have F0 := F
  have S := Ext.refl w2
  go_wp2_with fail
  refine (toRectS_any _ n0 _ l0 _ (h0.ext F) (by omega)).mono ?_
  rintro e w3 ⟨x0q, rfl, ox0, E⟩
  replace F := F.trans E
  replace S := S.trans E
  have zx0 := E.le
  clear E
  go_wp2_with fail
  refine (hI.out x0 _ _ _ (SlT.of_owns enc4_len e0.out ox0)).mono ?_
  rintro e w4 ⟨g0, k0, rfl, og0, E⟩
  have zI := E.le
  have zo0 := owns_ge ox0
  replace F := F.trans E
  replace S := S.trans E
  replace ox0 := owns_ext ox0 E
  clear E
  have zg0 := owns_ge og0
  go_wp2_with fail
  refine (eqInt64S_same _ _ _ _ _ R0 _ (SlT.of_owns (l := R0) enc1_len hR0.out og0) (ss0.ext S) (by omega)).mono ?_
  rintro e w5 ⟨rfl, E⟩
  replace F := F.trans E
  replace S := S.trans E
  replace ox0 := owns_ext ox0 E
  replace og0 := owns_ext og0 E
  clear E
  go_wp2_with fail
  refine (toRectS_any _ n0 _ l0 _ (h0.ext F) (by omega)).mono ?_
  rintro e w6 ⟨y0q, rfl, oy0, E⟩
  replace F := F.trans E
  replace S := S.trans E
  replace ox0 := owns_ext ox0 E
  replace og0 := owns_ext og0 E
  clear E
  go_wp2_with fail
  refine (eqRectS_same _ _ _ _ _ l0 _ (SlT.of_owns enc4_len e0.out ox0) (SlT.of_owns enc4_len e0.out oy0) (by omega)).mono ?_
  rintro e w7 ⟨rfl, E⟩
  replace F := F.trans E
  replace S := S.trans E
  replace ox0 := owns_ext ox0 E
  replace og0 := owns_ext og0 E
  clear E oy0
  go_wp2_with fail
  refine (markRectS_any x0q n0 n0 _ _ _ _ _ ox0 (by omega) (by omega) (by omega)).mono ?_
  rintro e w8 ⟨rfl, ox0m, M⟩
  clear ox0 ox0m
  have S2 := S.then M (fun k hk => by have := (zo0 k hk).1; omega)
  replace F := F0.trans S2
  replace og0 := M.grownBy (fun g hg hh => by have h5 := (og0.lt g hg).1; have h6 := (zo0 g hh).2; omega) og0
  replace S := S2
  clear S2 M
  have hkp : ¬ ((1 : Int) + n0 * 4 < 0) := by omega
  go_wp2_with fail
  refine (eqInt64S_same _ _ _ _ _ R0 _ (SlT.of_owns (l := R0) enc1_len hR0.out og0) (ss0.ext S) (by omega)).mono ?_
  rintro e w9 ⟨rfl, E⟩
  replace F := F.trans E
  replace S := S.trans E
  replace og0 := owns_ext og0 E
  clear E
  go_wp2_with fail
  refine (markInt64S_any g0 N0 k0 _ _ _ _ _ og0 (by omega) (by omega) (by omega)).mono ?_
  rintro e w10 ⟨rfl, om0, M⟩
  have S2 := S.then M (fun k hk => by have := (zg0 k hk).1; omega)
  replace F := F0.trans S2
  replace S := S2
  clear S2 M
  have hq0 : ¬ ((1 : Int) + (N0 : Int) < 0) := by omega
  go_wp2_with fail
  refine (heldInt64S_any g0 N0 k0 _ _ _ _ om0 (by omega) (by omega) (by omega)).mono ?_
  rintro e w' ⟨rfl, rfl⟩
  go_wp2_with fail
  refine (toRectS_any _ n0 _ l0 _ (h0.ext F) (by omega)).mono ?_
  rintro e w11 ⟨r0, rfl, or0, E⟩
  replace F := F.trans E
  replace S := S.trans E
  replace om0 := owns_ext om0 E
  clear E
  go_wp2_with fail
  refine (hI.out x0 _ _ _ (SlT.of_owns enc4_len e0.out or0)).mono ?_
  rintro e w12 ⟨b0, j0, rfl, oh0, E⟩
  replace F := F.trans E
  replace S := S.trans E
  replace om0 := owns_ext om0 E
  clear E or0
  go_wp2_with fail
  refine (eqInt64S_same _ _ _ _ _ R0 _ (SlT.of_owns (l := R0) enc1_len hR0.out oh0) (ss0.ext S) (by omega)).mono ?_
  rintro e w13 ⟨rfl, E⟩
  replace F := F.trans E
  replace S := S.trans E
  replace om0 := owns_ext om0 E
  replace oh0 := owns_ext oh0 E
  clear E
  go_wp2_with fail
  refine (heldInt64S_any g0 N0 k0 _ _ _ _ om0 (by omega) (by omega) (by omega)).mono ?_
  rintro e w' ⟨rfl, rfl⟩
  go_wp2_with fail
  go_ret
  exact ⟨rfl, F⟩
theorem exactOddCycle_any (q : Option Addr) (n c : Nat) (l : List Q4) (s : Int) (w : World) (h : SlT enc4 4 w q n l) (hm : n ≤ maxLen) :
    Calls Try.prog 12 #[.slice q n c, .int .i64 s] w fun e w' => e = .returned (.bool true) ∧ Ext w w' :=
  lawOddCycle q n c l s ((ocV l s).map fun (x : Nat) => (x : Int)) (ocV l s).length (ocC l s) w h hm (List.length_map _) (ocV_len l s) (hid fun hn W q c hW => (specOddCycle_any q n c l s W hW hn).mono fun _ _ h => h.intc) (hid fun hn W q c hW => (OddCycle_any q n c l s W hW hn).mono fun _ _ h => h.intc)
end Go.Proofs.Ytaigndaabmelhaa
