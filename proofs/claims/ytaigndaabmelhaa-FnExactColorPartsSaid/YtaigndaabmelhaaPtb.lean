/- Contract of patternTable (program). Condition: at most 2^20 rectangles. -/
import Derived.Test.YtaigndaabmelhaaCtb
namespace Go.Proofs.Ytaigndaabmelhaa
open Go.RowKit

/-- The code of patternTable, and its parts. -/
def ptC (l : List Q4) (s : Int) : Int := if ppC l = 0 then (if 1 ≤ s ∧ s ≤ 8 then 0 else 2) else ppC l
def ptL (l : List Q4) (s : Int) : List (List Q4) := if ptC l s = 0 then (ppG l).map canon else []
theorem ptC_no {l : List Q4} {s : Int} (h : ¬ ppC l = 0) : ptC l s = ppC l ∧ ptL l s = [] := by
  have h1 : ptC l s = ppC l := by rw [ptC, if_neg h]
  exact ⟨h1, by rw [ptL, h1, if_neg h]⟩
theorem ptC_range {l : List Q4} {s : Int} (h : ppC l = 0) (h2 : ¬ (1 ≤ s ∧ s ≤ 8)) : ptC l s = 2 ∧ ptL l s = [] := by
  have h1 : ptC l s = 2 := by rw [ptC, if_pos h, if_neg h2]
  exact ⟨h1, by rw [ptL, h1, if_neg (by omega)]⟩
theorem ptC_ok {l : List Q4} {s : Int} (h : ppC l = 0) (h2 : 1 ≤ s ∧ s ≤ 8) : ptC l s = 0 ∧ ptL l s = (ppG l).map canon := by
  have h1 : ptC l s = 0 := by rw [ptC, if_pos h, if_pos h2]
  exact ⟨h1, by rw [ptL, if_pos h1]⟩
theorem ppG_zero {l : List Q4} (h : ¬ ppC l = 0) : ppG l = [] := by
  rw [ppC] at h
  rw [ppG]
  split at h
  · rename_i h1
    rw [if_pos h1]
    split at h
    · rename_i h2; rw [if_pos h2]
    · exact absurd rfl h
  · rename_i h1; rw [if_neg h1]
theorem ptL_len (l : List Q4) (s : Int) : (ptL l s).length ≤ 12 := by
  rw [ptL]; split
  · rw [List.length_map]; exact ppG_len l
  · simp
theorem parts_ok (G : List Grid) : ∀ l ∈ G.map canon, l.length ≤ 3200 ∧ ∀ r ∈ l, vR r = true := by
  intro l hl
  rw [List.mem_map] at hl
  obtain ⟨g, _, rfl⟩ := hl
  exact vRs_parts (canon_valid g)
theorem ptL_ok (l : List Q4) (s : Int) : ∀ x ∈ ptL l s, x.length ≤ 3200 ∧ ∀ r ∈ x, vR r = true := by
  rw [ptL]; split
  · exact parts_ok _
  · intro x hx; simp at hx
def PtTab (l : List Q4) (s : Int) (w : World) (e : Ending) (w' : World) : Prop := ∃ (q : Option Addr) (c : Nat) (q2 : Option Addr) (c2 : Nat), e = .returned (.tuple #[.slice q (ptL l s).length c, .slice q2 (ptL l s).length c2, .int .i64 (ptC l s)]) ∧
  SlR enc4 4 w' q (ptL l s).length (ptL l s) ∧ SlR encb 1 w' q2 (ptL l s).length (tabL (ptL l s) s) ∧ Ext w w'
set_option maxRecDepth 100000 in
set_option maxHeartbeats 4000000 in
theorem patternTable_any (q : Option Addr) (n c : Nat) (l : List Q4) (s : Int) (w : World) (h : SlT enc4 4 w q n l) (hn : n ≤ 1048576) :
    Calls Try.prog 65 #[.slice q n c, .int .i64 s] w (PtTab l s w) := by
  have hp := hid (PatternParts_any q n c l w h hn)
  have hgl := ppG_len l
  have hwi := fun W => within_any s 1 8 W
  have hwb : wit s 1 8 = true ↔ (1 ≤ s ∧ s ≤ 8) := wit_iff
  by_cases h0 : ppC l = 0
  · cases hw : wit s 1 8 with
    | true =>
      have hs := hwb.1 hw
      rw [hw] at hwi
      replace hwi := hid hwi
      have hc := hid (ptC_ok h0 hs)
      have hok := hid (parts_ok (ppG l))
      obtain ⟨P, hP⟩ : ∃ P, P = (ppG l).map canon := ⟨_, rfl⟩
      obtain ⟨m, hm⟩ : ∃ m, m = (ppG l).length := ⟨_, rfl⟩
      have hPm : P.length = m := by rw [hP, hm, List.length_map]
      rw [← hP] at hok hc
      obtain ⟨hs1, hs8⟩ := hs
      clear hw hwb
      go_enter Try.func65, Try.ntmps65
      go_wp2_with fail
      refine hp.out.mono ?_
      rintro e w1 ⟨q1, c1, H, rfl, o1, E1⟩
      rw [h0]
      rw [← hm] at o1 hgl ⊢
      have hr := hid (o1.toS.toR)
      rw [← hP] at hr
      replace hm := hid hm
      replace hP := hid hP
      replace hPm := hid hPm
      replace h0 := hid h0
      clear o1
      go_wp2_with fail
      refine (hwi.out _).mono ?_
      rintro e w2 ⟨rfl, rfl⟩
      go_wp2_with fail
      refine (conflictTable_any q1 m c1 P s _ hr.out (by omega) hok.out hs1 hs8).mono ?_
      rintro e w3 ⟨q2, c2, H2, rfl, o2, E2⟩
      have hT : Hid ((tabL P s).length = m) := (tabL_len P s).trans hPm.out
      rw [hT.out] at o2 ⊢
      have hr2 := hid (o2.toR (enc := encb) (L := tabL P s) (by omega) encb_len)
      have hr1 := hid (hr.out.ext E2)
      have hE := hid (E1.trans E2)
      clear o2
      go_wp2_with fail
      refine bodyPost_ret (results_tmp3 rfl _ _ _) rfl ?_
      rw [PtTab, hc.out.1, hc.out.2, hPm.out]
      exact ⟨q1, c1, q2, c2, rfl, hr1.out, hr2.out, hE.out⟩
    | false =>
      have hs : ¬ (1 ≤ s ∧ s ≤ 8) := fun h => by rw [hwb.2 h] at hw; cases hw
      rw [hw] at hwi
      replace hwi := hid hwi
      have hc := hid (ptC_range h0 hs)
      clear hw hwb hs
      go_enter Try.func65, Try.ntmps65
      go_wp2_with fail
      refine hp.out.mono ?_
      rintro e w1 ⟨q1, c1, H, rfl, o1, E1⟩
      rw [h0]
      replace h0 := hid h0
      replace o1 := hid o1
      go_wp2_with fail
      refine (hwi.out _).mono ?_
      rintro e w2 ⟨rfl, rfl⟩
      go_wp2_with fail
      refine bodyPost_ret (results_tmp3 rfl _ _ _) rfl ?_
      rw [PtTab, hc.out.1, hc.out.2]
      exact ⟨none, 0, none, 0, rfl, SlR.nil _ _, SlR.nil _ _, E1⟩
  · have hc := hid (ptC_no (s := s) h0)
    have hB1 : decide (ppC l = 0) = false := decide_eq_false h0
    have hB2 : (ppC l == 0) = false := by simpa using h0
    have hB3 : (ppC l != 0) = true := by simp [h0]
    obtain ⟨C, hC⟩ : ∃ C, C = ppC l := ⟨_, rfl⟩
    rw [← hC] at h0 hB1 hB2 hB3 hc
    clear hwb
    go_enter Try.func65, Try.ntmps65
    go_wp2_with fail
    refine hp.out.mono ?_
    rintro e w1 ⟨q1, c1, H, rfl, o1, E1⟩
    rw [← hC]
    replace hC := hid hC
    replace o1 := hid o1
    go_wp2_with fail
    refine bodyPost_ret (results_tmp3 rfl _ _ _) rfl ?_
    rw [PtTab, hc.out.1, hc.out.2]
    exact ⟨none, 0, none, 0, rfl, SlR.nil _ _, SlR.nil _ _, E1⟩
end Go.Proofs.Ytaigndaabmelhaa
