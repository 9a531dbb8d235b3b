/- Contracts of ColorParts, of the program and of the reference; the law FnExactColorParts. Condition: at most 2^20 rectangles. -/
import Derived.Test.YtaigndaabmelhaaCrf
import Derived.Test.YtaigndaabmelhaaLpa
import Derived.Test.YtaigndaabmelhaaArm
namespace Go.Proofs.Ytaigndaabmelhaa
open Go.RowKit

theorem tabL_rows2 (L : List (List Q4)) (s : Int) : ∀ r ∈ tabL L s, r.length = L.length := by
  intro r hr
  rw [tabL, tabN, List.mem_map] at hr
  obtain ⟨i, _, rfl⟩ := hr
  exact tabR_len _ _ _ _
/-- Is there a coloring? -/
def cpO (l : List Q4) (s : Int) : Bool := okC (tabL (ptL l s) s) (ptL l s).length
/-- The code of ColorParts, and its colors. -/
def cpC (l : List Q4) (s : Int) : Int := if ptC l s = 0 then (if cpO l s = true then 0 else 6) else ptC l s
def cpL (l : List Q4) (s : Int) : List Int := if ptC l s = 0 then clL (tabL (ptL l s) s) (ptL l s).length else []
theorem cpC_no {l : List Q4} {s : Int} (h : ¬ ptC l s = 0) : cpC l s = ptC l s ∧ cpL l s = [] := ⟨by rw [cpC, if_neg h], by rw [cpL, if_neg h]⟩
theorem cpC_bad {l : List Q4} {s : Int} (h : ptC l s = 0) (h2 : cpO l s = false) : cpC l s = 6 ∧ cpL l s = [] := ⟨by rw [cpC, if_pos h, h2]; rfl, by rw [cpL, if_pos h, clL, if_neg (by rw [cpO] at h2; rw [h2]; simp)]⟩
theorem cpC_ok {l : List Q4} {s : Int} (h : ptC l s = 0) (h2 : cpO l s = true) : cpC l s = 0 ∧ cpL l s = clL (tabL (ptL l s) s) (ptL l s).length := ⟨by rw [cpC, if_pos h, h2]; rfl, by rw [cpL, if_pos h]⟩
theorem clL_len (T : List (List Bool)) (n : Nat) : (clL T n).length ≤ n := by rw [clL]; split <;> simp
theorem cpL_len (l : List Q4) (s : Int) : (cpL l s).length ≤ 1048576 := by
  rw [cpL]; split
  · have h1 := clL_len (tabL (ptL l s) s) (ptL l s).length
    have h2 := ptL_len l s
    omega
  · simp
def IntcB (L : List Int) (C : Int) (w : World) (e : Ending) (w' : World) : Prop := ∃ (q : Option Addr) (c : Nat), e = .returned (.tuple #[.slice q L.length c, .int .i64 C]) ∧ w'.ownsRow w.heap.size 2 1 (.slice q L.length c) L.length (L.flatMap enc1) ∧ Ext w w'
set_option maxRecDepth 100000 in
set_option maxHeartbeats 4000000 in
theorem ColorParts_any (q : Option Addr) (n c : Nat) (l : List Q4) (s : Int) (w : World) (h : SlT enc4 4 w q n l) (hn : n ≤ 1048576) :
    Calls Try.prog 30 #[.slice q n c, .int .i64 s] w (IntcB (cpL l s) (cpC l s) w) := by
  have hp := hid (patternTable_any q n c l s w h hn)
  have hpl := ptL_len l s
  by_cases h0 : ptC l s = 0
  · have hrows := hid (tabL_rows2 (ptL l s) s)
    obtain ⟨T, hT⟩ : ∃ T, T = tabL (ptL l s) s := ⟨_, rfl⟩
    obtain ⟨m, hm⟩ : ∃ m, m = (ptL l s).length := ⟨_, rfl⟩
    rw [← hT, ← hm] at hrows
    cases hb : cpO l s with
    | true =>
      have hcc := hid (cpC_ok h0 hb)
      have hbb : Hid (okC T m = true) := by show _ = _; rw [hT, hm]; exact hb
      have hcl : Hid (cpL l s = clL T m) := by show _ = _; rw [cpL, if_pos h0, hT, hm]
      go_enter Try.func30, Try.ntmps30
      go_wp2_with fail
      refine hp.out.mono ?_
      rintro e w1 ⟨q1, c1, q2, c2, rfl, r1, r2, E1⟩
      rw [h0]
      rw [← hm] at r1 r2 hpl ⊢
      rw [← hT] at r2
      have r2 := hid r2
      replace E1 := hid E1
      replace hT := hid hT
      replace hm := hid hm
      replace h0 := hid h0
      replace hb := hid hb
      clear r1
      go_wp2_with fail
      refine (colored_any q2 m c2 T _ r2.out (by omega) hrows.out).mono ?_
      rintro e w2 ⟨q5, c5, rfl, o5, E2⟩
      rw [hbb.out]
      replace o5 := hid o5
      have hE := hid (E1.out.trans E2)
      have hE1 := hid E1.out.le
      clear E2
      go_wp2_with fail
      go_ret2
      rw [IntcB, hcc.out.1, hcl.out]
      exact ⟨q5, c5, rfl, owns_lowP o5.out hE1.out, hE.out⟩
    | false =>
      have hcc := hid (cpC_bad h0 hb)
      have hbb : Hid (okC T m = false) := by show _ = _; rw [hT, hm]; exact hb
      have hcl : Hid (cpL l s = clL T m) := by show _ = _; rw [cpL, if_pos h0, hT, hm]
      go_enter Try.func30, Try.ntmps30
      go_wp2_with fail
      refine hp.out.mono ?_
      rintro e w1 ⟨q1, c1, q2, c2, rfl, r1, r2, E1⟩
      rw [h0]
      rw [← hm] at r1 r2 hpl ⊢
      rw [← hT] at r2
      have r2 := hid r2
      replace E1 := hid E1
      replace hT := hid hT
      replace hm := hid hm
      replace h0 := hid h0
      replace hb := hid hb
      clear r1
      go_wp2_with fail
      refine (colored_any q2 m c2 T _ r2.out (by omega) hrows.out).mono ?_
      rintro e w2 ⟨q5, c5, rfl, o5, E2⟩
      rw [hbb.out]
      replace o5 := hid o5
      have hE := hid (E1.out.trans E2)
      have hE1 := hid E1.out.le
      clear E2
      go_wp2_with fail
      go_ret2
      rw [IntcB, hcc.out.1, hcc.out.2]
      exact ⟨none, 0, rfl, World.ownsRow_nil _ _ _ _, hE.out⟩
  · have hB2 : (ptC l s == 0) = false := by simpa using h0
    have hB3 : (ptC l s != 0) = true := by simp [h0]
    have hcc := hid (cpC_no h0)
    obtain ⟨C, hC⟩ : ∃ C, C = ptC l s := ⟨_, rfl⟩
    rw [← hC] at h0 hB2 hB3
    go_enter Try.func30, Try.ntmps30
    go_wp2_with fail
    refine hp.out.mono ?_
    rintro e w1 ⟨q1, c1, q2, c2, rfl, r1, r2, E1⟩
    rw [← hC]
    replace hC := hid hC
    replace r1 := hid r1
    replace r2 := hid r2
    go_wp2_with fail
    go_ret2
    rw [IntcB, hcc.out.1, hcc.out.2, ← hC.out]
    exact ⟨none, 0, rfl, World.ownsRow_nil _ _ _ _, E1⟩
set_option maxRecDepth 100000 in
set_option maxHeartbeats 4000000 in
theorem specColorParts_any (q : Option Addr) (n c : Nat) (l : List Q4) (s : Int) (w : World) (h : SlT enc4 4 w q n l) (hn : n ≤ 1048576) :
    Calls Try.prog 44 #[.slice q n c, .int .i64 s] w (IntcB (cpL l s) (cpC l s) w) := by
  have hp := hid (l33Parts_any q n c l s w h hn)
  have hpl := ptL_len l s
  by_cases h0 : ptC l s = 0
  · have hrows := hid (tabL_rows2 (ptL l s) s)
    obtain ⟨T, hT⟩ : ∃ T, T = tabL (ptL l s) s := ⟨_, rfl⟩
    obtain ⟨m, hm⟩ : ∃ m, m = (ptL l s).length := ⟨_, rfl⟩
    rw [← hT, ← hm] at hrows
    cases hb : cpO l s with
    | true =>
      have hcc := hid (cpC_ok h0 hb)
      have hbb : Hid (okC T m = true) := by show _ = _; rw [hT, hm]; exact hb
      have hcl : Hid (cpL l s = clL T m) := by show _ = _; rw [cpL, if_pos h0, hT, hm]
      go_enter Try.func44, Try.ntmps44
      go_wp2_with fail
      refine hp.out.mono ?_
      rintro e w1 ⟨q1, c1, q2, c2, rfl, r1, r2, E1⟩
      rw [h0]
      rw [← hm] at r1 r2 hpl ⊢
      rw [← hT] at r2
      have r2 := hid r2
      replace E1 := hid E1
      replace hT := hid hT
      replace hm := hid hm
      replace h0 := hid h0
      replace hb := hid hb
      clear r1
      go_wp2_with fail
      refine (l33Color_any q2 m c2 T _ r2.out (by omega) hrows.out).mono ?_
      rintro e w2 ⟨q5, c5, rfl, o5, E2⟩
      rw [hbb.out]
      replace o5 := hid o5
      have hE := hid (E1.out.trans E2)
      have hE1 := hid E1.out.le
      clear E2
      go_wp2_with fail
      go_ret2
      rw [IntcB, hcc.out.1, hcl.out]
      exact ⟨q5, c5, rfl, owns_lowP o5.out hE1.out, hE.out⟩
    | false =>
      have hcc := hid (cpC_bad h0 hb)
      have hbb : Hid (okC T m = false) := by show _ = _; rw [hT, hm]; exact hb
      have hcl : Hid (cpL l s = clL T m) := by show _ = _; rw [cpL, if_pos h0, hT, hm]
      go_enter Try.func44, Try.ntmps44
      go_wp2_with fail
      refine hp.out.mono ?_
      rintro e w1 ⟨q1, c1, q2, c2, rfl, r1, r2, E1⟩
      rw [h0]
      rw [← hm] at r1 r2 hpl ⊢
      rw [← hT] at r2
      have r2 := hid r2
      replace E1 := hid E1
      replace hT := hid hT
      replace hm := hid hm
      replace h0 := hid h0
      replace hb := hid hb
      clear r1
      go_wp2_with fail
      refine (l33Color_any q2 m c2 T _ r2.out (by omega) hrows.out).mono ?_
      rintro e w2 ⟨q5, c5, rfl, o5, E2⟩
      rw [hbb.out]
      replace o5 := hid o5
      have hE := hid (E1.out.trans E2)
      have hE1 := hid E1.out.le
      clear E2
      go_wp2_with fail
      go_ret2
      rw [IntcB, hcc.out.1, hcc.out.2]
      exact ⟨none, 0, rfl, World.ownsRow_nil _ _ _ _, hE.out⟩
  · have hB2 : (ptC l s == 0) = false := by simpa using h0
    have hB3 : (ptC l s != 0) = true := by simp [h0]
    have hcc := hid (cpC_no h0)
    obtain ⟨C, hC⟩ : ∃ C, C = ptC l s := ⟨_, rfl⟩
    rw [← hC] at h0 hB2 hB3
    go_enter Try.func44, Try.ntmps44
    go_wp2_with fail
    refine hp.out.mono ?_
    rintro e w1 ⟨q1, c1, q2, c2, rfl, r1, r2, E1⟩
    rw [← hC]
    replace hC := hid hC
    replace r1 := hid r1
    replace r2 := hid r2
    go_wp2_with fail
    go_ret2
    rw [IntcB, hcc.out.1, hcc.out.2, ← hC.out]
    exact ⟨none, 0, rfl, World.ownsRow_nil _ _ _ _, E1⟩
set_option maxRecDepth 100000 in
set_option maxHeartbeats 4000000 in
theorem lawColorParts (q0 : Option Addr) (n0 c0 : Nat) (l0 : List Q4) (a1 : Int) (R0 : List Int) (N0 : Nat) (s1 : Int) (w : World) (h0 : SlT enc4 4 w q0 n0 l0) (m0 : n0 ≤ maxLen) (hR0 : R0.length = N0) (hN0 : N0 ≤ 1048576)
    (hS : Hid (n0 ≤ 1048576 → ∀ (W : World) (q0 : Option Addr) (c0 : Nat), SlT enc4 4 W q0 n0 l0 → Calls Try.prog 44 #[.slice q0 n0 c0, .int .i64 a1] W fun e w' => ∃ p0 d0, e = .returned (.tuple #[.slice p0 N0 d0, .int .i64 s1]) ∧ w'.ownsRow W.heap.size 2 1 (.slice p0 N0 d0) N0 (R0.flatMap enc1) ∧ Ext W w'))
    (hI : Hid (n0 ≤ 1048576 → ∀ (W : World) (q0 : Option Addr) (c0 : Nat), SlT enc4 4 W q0 n0 l0 → Calls Try.prog 30 #[.slice q0 n0 c0, .int .i64 a1] W fun e w' => ∃ p0 d0, e = .returned (.tuple #[.slice p0 N0 d0, .int .i64 s1]) ∧ w'.ownsRow W.heap.size 2 1 (.slice p0 N0 d0) N0 (R0.flatMap enc1) ∧ Ext W w')) :
    Calls Try.prog 10 #[.slice q0 n0 c0, .int .i64 a1] w fun e w' => e = .returned (.bool true) ∧ Ext w w' := by
  have e0 := hid h0.length
  unfold maxLen at m0
  replace hR0 := hid hR0
  by_cases x0 : 1048576 < (n0 : Int)
  · go_enter Try.func10, Try.ntmps10
    go_wp2_with fail
    refine (szRectS_any q0 n0 c0 _ _ (by omega) (by omega) (by omega)).mono ?_
    rintro e w' ⟨rfl, rfl⟩
    rw [if_pos (by omega)]
    go_wp2_with fail
    go_ret
    exact ⟨rfl, Ext.refl _⟩
  go_enter Try.func10, Try.ntmps10
  go_wp2_with fail
  refine (szRectS_any q0 n0 c0 _ _ (by omega) (by omega) (by omega)).mono ?_
  rintro e w' ⟨rfl, rfl⟩
  rw [if_neg (by omega)]
  have y0 := x0
  replace x0 : n0 ≤ 1048576 := by omega
  clear y0
  have F := Ext.refl w
  go_wp2_with fail
  refine (toRectS_any _ n0 _ l0 _ (h0.ext F) (by omega)).mono ?_
  rintro e w1 ⟨t0, rfl, ot0, E⟩
  replace F := F.trans E
  clear E
  go_wp2_with fail
  refine (hS.out x0 _ _ _ (SlT.of_owns enc4_len e0.out ot0)).mono ?_
  rintro e w2 ⟨u0, v0, rfl, os0, E⟩
  replace F := F.trans E
  clear E ot0
  have ss0 := SlT.of_owns (l := R0) enc1_len hR0.out os0
  clear os0
  have F0 := F
  have S := Ext.refl w2
  go_wp2_with fail
  refine (toRectS_any _ n0 _ l0 _ (h0.ext F) (by omega)).mono ?_
  rintro e w3 ⟨x0q, rfl, ox0, E⟩
  replace F := F.trans E
  replace S := S.trans E
  have zx0 := E.le
  clear E
  go_wp2_with fail
  refine (hI.out x0 _ _ _ (SlT.of_owns enc4_len e0.out ox0)).mono ?_
  rintro e w4 ⟨g0, k0, rfl, og0, E⟩
  have zI := E.le
  have zo0 := owns_ge ox0
  replace F := F.trans E
  replace S := S.trans E
  replace ox0 := owns_ext ox0 E
  clear E
  have zg0 := owns_ge og0
  go_wp2_with fail
  refine (eqInt64S_same _ _ _ _ _ R0 _ (SlT.of_owns (l := R0) enc1_len hR0.out og0) (ss0.ext S) (by omega)).mono ?_
  rintro e w5 ⟨rfl, E⟩
  replace F := F.trans E
  replace S := S.trans E
  replace ox0 := owns_ext ox0 E
  replace og0 := owns_ext og0 E
  clear E
  go_wp2_with fail
  refine (toRectS_any _ n0 _ l0 _ (h0.ext F) (by omega)).mono ?_
  rintro e w6 ⟨y0q, rfl, oy0, E⟩
  replace F := F.trans E
  replace S := S.trans E
  replace ox0 := owns_ext ox0 E
  replace og0 := owns_ext og0 E
  clear E
  go_wp2_with fail
  refine (eqRectS_same _ _ _ _ _ l0 _ (SlT.of_owns enc4_len e0.out ox0) (SlT.of_owns enc4_len e0.out oy0) (by omega)).mono ?_
  rintro e w7 ⟨rfl, E⟩
  replace F := F.trans E
  replace S := S.trans E
  replace ox0 := owns_ext ox0 E
  replace og0 := owns_ext og0 E
  clear E oy0
  go_wp2_with fail
  refine (markRectS_any x0q n0 n0 _ _ _ _ _ ox0 (by omega) (by omega) (by omega)).mono ?_
  rintro e w8 ⟨rfl, ox0m, M⟩
  clear ox0 ox0m
  have S2 := S.then M (fun k hk => by have := (zo0 k hk).1; omega)
  replace F := F0.trans S2
  replace og0 := M.grownBy (fun g hg hh => by have h5 := (og0.lt g hg).1; have h6 := (zo0 g hh).2; omega) og0
  replace S := S2
  clear S2 M
  have hkp : ¬ ((1 : Int) + n0 * 4 < 0) := by omega
  go_wp2_with fail
  refine (eqInt64S_same _ _ _ _ _ R0 _ (SlT.of_owns (l := R0) enc1_len hR0.out og0) (ss0.ext S) (by omega)).mono ?_
  rintro e w9 ⟨rfl, E⟩
  replace F := F.trans E
  replace S := S.trans E
  replace og0 := owns_ext og0 E
  clear E
  go_wp2_with fail
  refine (markInt64S_any g0 N0 k0 _ _ _ _ _ og0 (by omega) (by omega) (by omega)).mono ?_
  rintro e w10 ⟨rfl, om0, M⟩
  have S2 := S.then M (fun k hk => by have := (zg0 k hk).1; omega)
  replace F := F0.trans S2
  replace S := S2
  clear S2 M
  have hq0 : ¬ ((1 : Int) + (N0 : Int) < 0) := by omega
  go_wp2_with fail
  refine (heldInt64S_any g0 N0 k0 _ _ _ _ om0 (by omega) (by omega) (by omega)).mono ?_
  rintro e w' ⟨rfl, rfl⟩
  go_wp2_with fail
  refine (toRectS_any _ n0 _ l0 _ (h0.ext F) (by omega)).mono ?_
  rintro e w11 ⟨r0, rfl, or0, E⟩
  replace F := F.trans E
  replace S := S.trans E
  replace om0 := owns_ext om0 E
  clear E
  go_wp2_with fail
  refine (hI.out x0 _ _ _ (SlT.of_owns enc4_len e0.out or0)).mono ?_
  rintro e w12 ⟨b0, j0, rfl, oh0, E⟩
  replace F := F.trans E
  replace S := S.trans E
  replace om0 := owns_ext om0 E
  clear E or0
  go_wp2_with fail
  refine (eqInt64S_same _ _ _ _ _ R0 _ (SlT.of_owns (l := R0) enc1_len hR0.out oh0) (ss0.ext S) (by omega)).mono ?_
  rintro e w13 ⟨rfl, E⟩
  replace F := F.trans E
  replace S := S.trans E
  replace om0 := owns_ext om0 E
  replace oh0 := owns_ext oh0 E
  clear E
  go_wp2_with fail
  refine (heldInt64S_any g0 N0 k0 _ _ _ _ om0 (by omega) (by omega) (by omega)).mono ?_
  rintro e w' ⟨rfl, rfl⟩
  go_wp2_with fail
  go_ret
  exact ⟨rfl, F⟩
theorem exactColorParts_any (q : Option Addr) (n c : Nat) (l : List Q4) (s : Int) (w : World) (h : SlT enc4 4 w q n l) (hm : n ≤ maxLen) :
    Calls Try.prog 10 #[.slice q n c, .int .i64 s] w fun e w' => e = .returned (.bool true) ∧ Ext w w' :=
  lawColorParts q n c l s (cpL l s) (cpL l s).length (cpC l s) w h hm rfl (cpL_len l s) (hid fun hn W q c hW => specColorParts_any q n c l s W hW hn) (hid fun hn W q c hW => ColorParts_any q n c l s W hW hn)
end Go.Proofs.Ytaigndaabmelhaa
