/- The law FnCompact returns true at every code. Condition: none but what a slice's length can be. -/
import Derived.Test.YtnhiepgfgnemkaaCl1
namespace Go.Proofs.Ytnhiepgfgnemkaa
open Go.RowKit
set_option maxRecDepth 100000 in
set_option maxHeartbeats 8000000 in
theorem fnCompact_any (q : Option Addr) (n c : Nat) (l : List Int) (w : World) (h : SlT encU 1 w q n l) (hu : ∀ x ∈ l, 0 ≤ x ∧ x ≤ 255) (hm : n ≤ maxLen) :
    Calls Try.prog 12 #[.slice q n c] w fun e w' => e = .returned (.bool true) ∧ Ext w w' := by
  unfold maxLen at hm
  have hbig := big_any q n c w hm
  go_enter Try.func12, Try.ntmps12
  by_cases hn : 4096 < (n : Int)
  · rw [decide_eq_true hn] at hbig
    go_wp2_with fail
    refine hbig.mono ?_
    rintro e w' ⟨rfl, rfl⟩
    go_wp2_with fail
    go_ret
    exact ⟨rfl, Ext.refl _⟩
  · rw [decide_eq_false hn] at hbig
    go_wp2_with fail
    refine hbig.mono ?_
    clear hbig
    rintro e w' ⟨rfl, rfl⟩
    go_wp2_with fail
    refine (drawIsCompatible_any q n c l _ h hu (by omega)).mono ?_
    rintro e w1 ⟨p, d, bl, g, p2, d2, xs, rfl, hbl, hxl, hg0, hg1, hs1, sX, E1⟩
    obtain ⟨N, hN⟩ : ∃ N, N = bl.length := ⟨_, rfl⟩
    obtain ⟨M, hM⟩ : ∃ M, M = xs.length := ⟨_, rfl⟩
    rw [← hN] at hbl hs1 ⊢
    rw [← hM] at hxl sX ⊢
    have hNI : (N : Int) ≤ 14 := by omega
    replace hN := hid hN
    replace hM := hid hM
    replace hu := hid hu
    by_cases hok : isBL bl = true ∧ wit g 0 8 = true
    · obtain ⟨hl, hg⟩ := hok
      have hpc := hid (pos_comp hl hg)
      rw [← hN.out] at hpc
      replace hl := hid hl
      replace hg := hid hg
      go_wp2_with fail
      refine (Compact_ok p N d bl g _ hs1 hl.out hg.out).mono ?_
      rintro e w2 ⟨qO, cO, rfl, oO, E2⟩
      have sO := hid (tab_SlT oO)
      have hs2 := hid (hs1.ext E2)
      have sX2 := hid (sX.ext E2)
      have E02 := hid (E1.trans E2)
      clear oO E1 E2 hs1 sX
      have hic := IsCompatible_any p qO N N d cO bl (tab N (posF bl g)) g w2 hs2.out sO.out (by omega) (by omega)
      rw [hpc.out] at hic
      go_wp2_with fail
      refine hic.mono ?_
      clear hic
      rintro e w3 ⟨rfl, E3⟩
      go_wp2_with fail
      refine (w5Positions_any p N d bl _ (hs2.out.ext E3) (by omega)).mono ?_
      rintro e w4 ⟨qP, cP, rfl, oP, E4⟩
      replace E02 := hid (E02.out.trans (E3.trans E4))
      replace sO := hid (sO.out.ext (E3.trans E4))
      replace hs2 := hid (hs2.out.ext (E3.trans E4))
      have sX4 := hid (sX2.out.ext (E3.trans E4))
      have hLP : (bl.map (·.a)).length = N := by rw [List.length_map, hN.out]
      have sP := hid (SlT.of_owns enc1_len hLP (by rw [flat1]; exact oP))
      clear E3 E4 oP sX2 hLP
      go_wp2_with fail
      generalize hW : w4.alloc _ = W0
      have E40 : Ext w4 W0 := by rw [← hW]; exact (Ext.refl _).alloc _
      have hT := hid (show Blk W0 w4.heap.size [.slice p2 M d2, .slice qP N cP] 23 by rw [← hW]; exact Blk.new _ _ _)
      replace E02 := hid (E02.out.trans E40)
      replace sO := hid (sO.out.ext E40)
      replace hs2 := hid (hs2.out.ext E40)
      replace sX4 := hid (sX4.out.ext E40)
      replace sP := hid (sP.out.ext E40)
      clear E40 hW
      obtain ⟨Z, hZ⟩ : ∃ Z, Z = w4.heap.size := ⟨_, rfl⟩
      rw [← hZ] at hT ⊢
      replace hZ := hid hZ
      go_loopw [9, 10] (fun k _ wr => ∃ m : Nat, m ≤ 2 ∧ k = .int .i64 m ∧ Ext W0 wr) (fun k _ _ => 2 - (intOf k).toNat)
      case atStart => exact ⟨0, by omega, rfl, Ext.refl _⟩
      case round =>
        obtain ⟨m, hm2, rfl, hX⟩ := hrel
        by_cases hlt : m < 2
        · have hmI : (m : Int) < 2 := by omega
          obtain ⟨qT, nT, dT, T, hTc, sT, hnT⟩ : ∃ (qT : Option Addr) (nT dT : Nat) (T : List Int), W0.cell? ⟨Z, m, none⟩ = some (.slice qT nT dT) ∧ Hid (SlT enc1 1 W0 qT nT T) ∧ nT ≤ 14 := by
            rcases (show m = 0 ∨ m = 1 by omega) with rfl | rfl
            · exact ⟨p2, M, d2, xs, hT.out.cells 0, sX4, by omega⟩
            · exact ⟨qP, N, cP, bl.map (·.a), hT.out.cells 1, sP, by omega⟩
          have hZl := hT.out.lt
          go_wp2_with fail
          go_loopw [10] (fun i wr => ∃ k : Nat, k ≤ N ∧ i = .int .i64 k ∧ Ext W0 wr) (fun i _ => N - (intOf i).toNat)
          case atStart => exact ⟨0, by omega, rfl, hX⟩
          case round =>
            clear hX
            obtain ⟨k, hk, rfl, hX⟩ := hrel
            by_cases hkN : k < N
            · have hkI : (k : Int) < N := by omega
              have zc := (hX.cells _ _ hZl).trans hTc
              have hic := IsCompatible_any p qT N nT d dT bl T g wr (hs2.out.ext hX) (sT.out.ext hX) (by omega) (by omega)
              go_wp2_with fail
              cases hcb : compB bl g T with
              | true =>
                rw [hcb] at hic
                obtain ⟨hTl, hTe⟩ := comp_least hcb
                rw [← hN.out] at hTl hTe
                have hnN : nT = N := by rw [← sT.out.length, hTl]
                subst hnN
                obtain ⟨bt, ot, x, rfl, hbt, hx, t0⟩ := sT.out.int hkN
                obtain ⟨bo, oo, rfl, hbo, o0⟩ := sO.out.tab hkN
                have hle := hTe k hkN
                rw [xA_at hx.out] at hle
                obtain ⟨v, hv⟩ : ∃ v, v = posF bl g k := ⟨_, rfl⟩
                rw [← hv] at hle o0
                replace hv := hid hv
                have hd1 : decide (v > x) = false := by simp; omega
                have hd2 : decide (x < v) = false := by simp; omega
                refine hic.mono ?_
                clear hic
                rintro e w6 ⟨rfl, E6⟩
                have hX6 := hX.trans E6
                replace zc := (E6.cells _ _ (by have := hX.le; omega)).trans zc
                replace t0 := (hX6.cells _ _ hbt).trans t0
                replace o0 := (hX6.cells _ _ hbo).trans o0
                have hbt' : bt < w6.heap.size := by have := hX6.le; omega
                have hbo' : bo < w6.heap.size := by have := hX6.le; omega
                have hZ' : Z < w6.heap.size := by have := hX6.le; omega
                replace hcb := hid hcb
                replace hTe := hid hTe
                go_wp2_with fail
                refine wp_region_later (by kernel_rfl) (by kernel_rfl) ?_
                repeat (go_big_quiet_step (fail))
                refine wpQuiet_nil ?_
                rintro w7 ⟨⟨_, h7⟩, rfl⟩
                go_wp2_with fail
                go_roundw
                case rel => exact ⟨k + 1, by omega, by go_num, hX6.trans h7⟩
                case measure => simp [intOf]; omega
              | false =>
                rw [hcb] at hic
                refine hic.mono ?_
                clear hic
                rintro e w6 ⟨rfl, E6⟩
                replace hcb := hid hcb
                go_wp2_with fail
                exact ⟨⟨m + 1, by omega, by go_num, hX.trans E6⟩, by simp [intOf]; omega⟩
            · go_wp2_with fail
              exact ⟨⟨m + 1, by omega, by go_num, hX⟩, by simp [intOf]; omega⟩
        · go_wp2_with fail
          go_ret
          exact ⟨rfl, E02.out.trans hX⟩
    · have hk := codeB_bad hok
      have hc1 := Compact_bad p N d bl g w1 hs1 (by omega) hk
      obtain ⟨K, hK⟩ : ∃ K, K = codeB bl g := ⟨_, rfl⟩
      rw [← hK] at hc1 hk
      replace hK := hid hK
      have hd : (K != 0) = true := by simpa using hk
      go_wp2_with fail
      refine hc1.mono ?_
      clear hc1
      rintro e w2 ⟨q2, c2, rfl, E2⟩
      go_wp2_with fail
      go_ret
      exact ⟨rfl, E1.trans E2⟩
end Go.Proofs.Ytnhiepgfgnemkaa
