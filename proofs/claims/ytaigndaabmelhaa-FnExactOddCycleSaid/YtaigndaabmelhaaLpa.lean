/- The graph of the reference is the table of the program; contract of l33Parts. Condition: at most 2^20 rectangles. -/
import Derived.Test.YtaigndaabmelhaaLgp
namespace Go.Proofs.Ytaigndaabmelhaa
open Go.RowKit

theorem cells_on {l : List Q4} (hv : ∀ r ∈ l, vR r = true) : ∀ p ∈ cellsP l, onC p.a p.b = true := by
  intro p hp
  rw [mem_cellsP, inL, List.any_eq_true] at hp
  obtain ⟨r, hr, hi⟩ := hp
  exact inR_on (hv r hr) hi
theorem meet_conf {l1 l2 : List Q4} {s : Int} (v1 : ∀ r ∈ l1, vR r = true) (v2 : ∀ r ∈ l2, vR r = true) (hs : 0 ≤ s) : meetP (growC (ptG (cellsP l1)) s) (cellsP l2) = confL l1 l2 s := by
  rw [Bool.eq_iff_iff, meetP, confL, List.any_eq_true, List.any_eq_true]
  constructor
  · rintro ⟨p, hp, hg⟩
    rw [growC_iff] at hg
    obtain ⟨_, x, y, hxy, h1, h2⟩ := hg
    rw [gh_ptG (cells_on v1), mem_cellsP, inL, List.any_eq_true] at hxy
    rw [mem_cellsP, inL, List.any_eq_true] at hp
    obtain ⟨r, hr, hri⟩ := hxy
    obtain ⟨t, ht, hti⟩ := hp
    refine ⟨r, hr, List.any_eq_true.2 ⟨t, ht, ?_⟩⟩
    rw [inR_iff] at hri hti
    rw [cls_iff]
    simp only at hri
    omega
  · rintro ⟨r, hr, hc⟩
    rw [List.any_eq_true] at hc
    obtain ⟨t, ht, hc⟩ := hc
    rw [cls_iff] at hc
    have hr1 := vR_iff.1 (v1 r hr)
    have ht1 := vR_iff.1 (v2 t ht)
    obtain ⟨x, u, hx, hu, hxu⟩ : ∃ x u : Int, (r.a ≤ x ∧ x < r.c) ∧ (t.a ≤ u ∧ u < t.c) ∧ (x - u ≤ s ∧ u - x ≤ s) := by
      by_cases h1 : t.a < r.a
      · by_cases h2 : t.c ≤ r.a
        · exact ⟨r.a, t.c - 1, by omega, by omega, by omega⟩
        · exact ⟨r.a, r.a, by omega, by omega, by omega⟩
      · by_cases h2 : r.c ≤ t.a
        · exact ⟨r.c - 1, t.a, by omega, by omega, by omega⟩
        · exact ⟨t.a, t.a, by omega, by omega, by omega⟩
    obtain ⟨y, v, hy, hv, hyv⟩ : ∃ y v : Int, (r.b ≤ y ∧ y < r.d) ∧ (t.b ≤ v ∧ v < t.d) ∧ (y - v ≤ s ∧ v - y ≤ s) := by
      by_cases h1 : t.b < r.b
      · by_cases h2 : t.d ≤ r.b
        · exact ⟨r.b, t.d - 1, by omega, by omega, by omega⟩
        · exact ⟨r.b, r.b, by omega, by omega, by omega⟩
      · by_cases h2 : r.d ≤ t.b
        · exact ⟨r.d - 1, t.b, by omega, by omega, by omega⟩
        · exact ⟨t.b, t.b, by omega, by omega, by omega⟩
    refine ⟨⟨u, v⟩, mem_cellsP.2 (List.any_eq_true.2 ⟨t, ht, inR_iff.2 (by simp only; omega)⟩), ?_⟩
    rw [growC_iff]
    refine ⟨by rw [onC_iff]; simp only; omega, x, y, ?_, hxu, hyv⟩
    rw [gh_ptG (cells_on v1), mem_cellsP, inL, List.any_eq_true]
    exact ⟨r, hr, inR_iff.2 (by simp only; omega)⟩
theorem getD_cells (L : List (List Q4)) (i : Nat) : (L.map cellsP).getD i [] = cellsP (L.getD i []) := by
  rw [List.getD_eq_getElem?_getD, List.getD_eq_getElem?_getD, List.getElem?_map]
  cases L[i]? with
  | none => rfl
  | some l => rfl
theorem getD_ok {L : List (List Q4)} (hv : ∀ l ∈ L, l.length ≤ 3200 ∧ ∀ r ∈ l, vR r = true) (i : Nat) : ∀ r ∈ L.getD i [], vR r = true := by
  rw [List.getD_eq_getElem?_getD]
  cases h : L[i]? with
  | none => intro r hr; simp at hr
  | some l => exact (hv l (List.mem_of_getElem? h)).2
theorem graph_tab {L : List (List Q4)} {s : Int} (hv : ∀ l ∈ L, l.length ≤ 3200 ∧ ∀ r ∈ l, vR r = true) (hs : 0 ≤ s) : gtN (L.map cellsP) s (L.map cellsP).length = tabL L s := by
  rw [tabL, gtN, tabN, List.length_map]
  refine List.map_congr_left fun i _ => ?_
  rw [gtR, tabR]
  refine List.map_congr_left fun k _ => ?_
  rw [gtB, tbB, getD_cells, getD_cells, meet_conf (getD_ok hv i) (getD_ok hv k) hs]
theorem l33Spacing_any (s : Int) (w : World) : Calls Try.prog 122 #[.int .i64 s] w fun e w' => e = .returned (.bool (wit s 1 8)) ∧ w = w' := by
  go_enter Try.func122, Try.ntmps122
  go_wp2_with (go_at_call 128; refine (l09In_any _ _ _ _).mono ?_; rintro e w' ⟨rfl, rfl⟩)
  go_ret
  exact ⟨rfl, rfl⟩
theorem sets_ok {L : List (List Q4)} (hv : ∀ l ∈ L, l.length ≤ 3200 ∧ ∀ r ∈ l, vR r = true) : ∀ ps ∈ L.map cellsP, ps.length ≤ 100000000 ∧ ∀ p ∈ ps, onC p.a p.b = true := by
  intro ps hps
  rw [List.mem_map] at hps
  obtain ⟨l, hl, rfl⟩ := hps
  obtain ⟨h1, h2⟩ := hv l hl
  exact ⟨by have := cellsP_bd l h2; omega, cells_on h2⟩
set_option maxRecDepth 100000 in
set_option maxHeartbeats 4000000 in
theorem l33Parts_any (q : Option Addr) (n c : Nat) (l : List Q4) (s : Int) (w : World) (h : SlT enc4 4 w q n l) (hn : n ≤ 1048576) :
    Calls Try.prog 81 #[.slice q n c, .int .i64 s] w (PtTab l s w) := by
  have hp := hid (specPatternParts_any q n c l w h hn)
  have hgl := ppG_len l
  have hwi := fun W => l33Spacing_any s W
  have hwb : wit s 1 8 = true ↔ (1 ≤ s ∧ s ≤ 8) := wit_iff
  by_cases h0 : ppC l = 0
  · cases hw : wit s 1 8 with
    | true =>
      have hs := hwb.1 hw
      rw [hw] at hwi
      replace hwi := hid hwi
      have hc := hid (ptC_ok h0 hs)
      have hok := hid (parts_ok (ppG l))
      obtain ⟨P, hP⟩ : ∃ P, P = (ppG l).map canon := ⟨_, rfl⟩
      obtain ⟨m, hm⟩ : ∃ m, m = (ppG l).length := ⟨_, rfl⟩
      have hPm : P.length = m := by rw [hP, hm, List.length_map]
      rw [← hP] at hok hc
      obtain ⟨hs1, hs8⟩ := hs
      clear hw hwb
      go_enter Try.func81, Try.ntmps81
      go_wp2_with fail
      refine hp.out.mono ?_
      rintro e w1 ⟨q1, c1, H, rfl, o1, E1⟩
      rw [h0]
      rw [← hm] at o1 hgl ⊢
      have hr := hid (o1.toS.toR)
      rw [← hP] at hr
      replace hm := hid hm
      replace hP := hid hP
      replace hPm := hid hPm
      replace h0 := hid h0
      clear o1
      go_wp2_with fail
      refine (hwi.out _).mono ?_
      rintro e w2 ⟨rfl, rfl⟩
      go_wp2_with fail
      refine (l33Sets_any q1 m c1 P _ hr.out (by omega) hok.out).mono ?_
      rintro e w9 ⟨q9, c9, rfl, r9, E9⟩
      have hm9 : Hid ((P.map cellsP).length = m) := (List.length_map _).trans hPm.out
      rw [hm9.out] at r9 ⊢
      have r9 := hid r9
      have hso := hid (sets_ok hok.out)
      go_wp2_with fail
      refine (l33Graph_any q9 m c9 (P.map cellsP) s _ r9.out (by omega) hso.out hs1 hs8).mono ?_
      rw [graph_tab hok.out (by omega)]
      rintro e w3 ⟨q2, c2, H2, rfl, o2, E2'⟩
      have E2 := E9.trans E2'
      clear E9 E2'
      have hT : Hid ((tabL P s).length = m) := (tabL_len P s).trans hPm.out
      rw [hT.out] at o2 ⊢
      have hr2 := hid (o2.toR (enc := encb) (L := tabL P s) (by omega) encb_len)
      have hr1 := hid (hr.out.ext E2)
      have hE := hid (E1.trans E2)
      clear o2
      go_wp2_with fail
      refine bodyPost_ret (results_tmp3 rfl _ _ _) rfl ?_
      rw [PtTab, hc.out.1, hc.out.2, hPm.out]
      exact ⟨q1, c1, q2, c2, rfl, hr1.out, hr2.out, hE.out⟩
    | false =>
      have hs : ¬ (1 ≤ s ∧ s ≤ 8) := fun h => by rw [hwb.2 h] at hw; cases hw
      rw [hw] at hwi
      replace hwi := hid hwi
      have hc := hid (ptC_range h0 hs)
      clear hw hwb hs
      go_enter Try.func81, Try.ntmps81
      go_wp2_with fail
      refine hp.out.mono ?_
      rintro e w1 ⟨q1, c1, H, rfl, o1, E1⟩
      rw [h0]
      replace h0 := hid h0
      replace o1 := hid o1
      go_wp2_with fail
      refine (hwi.out _).mono ?_
      rintro e w2 ⟨rfl, rfl⟩
      go_wp2_with fail
      refine bodyPost_ret (results_tmp3 rfl _ _ _) rfl ?_
      rw [PtTab, hc.out.1, hc.out.2]
      exact ⟨none, 0, none, 0, rfl, SlR.nil _ _, SlR.nil _ _, E1⟩
  · have hc := hid (ptC_no (s := s) h0)
    have hB1 : decide (ppC l = 0) = false := decide_eq_false h0
    have hB2 : (ppC l == 0) = false := by simpa using h0
    have hB3 : (ppC l != 0) = true := by simp [h0]
    obtain ⟨C, hC⟩ : ∃ C, C = ppC l := ⟨_, rfl⟩
    rw [← hC] at h0 hB1 hB2 hB3 hc
    clear hwb
    go_enter Try.func81, Try.ntmps81
    go_wp2_with fail
    refine hp.out.mono ?_
    rintro e w1 ⟨q1, c1, H, rfl, o1, E1⟩
    rw [← hC]
    replace hC := hid hC
    replace o1 := hid o1
    go_wp2_with fail
    refine bodyPost_ret (results_tmp3 rfl _ _ _) rfl ?_
    rw [PtTab, hc.out.1, hc.out.2]
    exact ⟨none, 0, none, 0, rfl, SlR.nil _ _, SlR.nil _ _, E1⟩
end Go.Proofs.Ytaigndaabmelhaa
