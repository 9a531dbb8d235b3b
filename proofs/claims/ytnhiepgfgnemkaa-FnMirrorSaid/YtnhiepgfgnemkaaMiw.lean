/- The law FnMirror returns true at every code. Condition: none but what a slice's length can be. -/
import Derived.Test.YtnhiepgfgnemkaaSlw
namespace Go.Proofs.Ytnhiepgfgnemkaa
open Go.RowKit

section
variable {l : List Q4} {g : Int} (hl : isBL l = true) (hg : wit g 0 8 = true)
include hl hg
omit hl hg in
theorem mir_edge {e : Q3} (he : e ∈ csL l g) : mirF l g e.b + ((bA l e.b).c + g) ≤ mirF l g e.a := by
  have T := revW_topo l g
  have hm : (⟨e.b, e.a, (bA l e.b).c + g⟩ : Q3) ∈ revW l g (csL l g) := List.mem_map.2 ⟨e, he, rfl⟩
  have hF := passB_is (b := fun _ => (g + 1) / 2) T (fun _ => 0) e.a (T.memB _ hm)
  have h2 := fx_ge (mirF l g) e.a (revW l g (csL l g)) ((g + 1) / 2) _ hm rfl
  have hF' : mirF l g e.a = fx (revW l g (csL l g)) (mirF l g) e.a ((g + 1) / 2) := hF
  have h3 : mirF l g e.b + ((bA l e.b).c + g) ≤ fx (revW l g (csL l g)) (mirF l g) e.a ((g + 1) / 2) := h2
  omega
omit hl hg in
theorem mir_base {i : Nat} (hi : i < l.length) : (g + 1) / 2 ≤ mirF l g i := by
  have hF := passB_is (b := fun _ => (g + 1) / 2) (revW_topo l g) (fun _ => 0) i (mem_ltrR.2 (mem_upto hi))
  have hF' : mirF l g i = fx (revW l g (csL l g)) (mirF l g) i ((g + 1) / 2) := hF
  have := fx_base (mirF l g) i (revW l g (csL l g)) ((g + 1) / 2)
  omega
theorem axis_le : axisF l g ≤ 620 := wid_le _ (by omega) fun i _ => by have := mirF_btw hl hg i; have := bA_btw hl i; omega
omit hl hg in
theorem cs_dist {e : Q3} (he : e ∈ csL l g) : e.c = (bA l e.a).c + g := by
  obtain ⟨i, hi, k, hk, -, he⟩ := csL_mem.1 he
  rw [one_mem he]
theorem left_bd {i : Nat} (hi : i < l.length) : 0 ≤ leftF l g i ∧ leftF l g i ≤ 620 := by
  have h1 := wid_ge (mirF l g) hi
  have h2 := axis_le hl hg
  have h3 := mirF_btw hl hg i
  have h4 := wid_bd hl hi
  rw [leftF, axisF] at *; omega
theorem left_comp : compB l g (tab l.length (leftF l g)) = true :=
  comp_of hl hg (fun i hi => by have := left_bd hl hg hi; omega) (fun e he => by
    have h1 := mir_edge he; have h2 := cs_dist he; rw [leftF, leftF]; omega)
theorem right_bd {i : Nat} (hi : i < l.length) : 0 ≤ rightF l g i ∧ rightF l g i ≤ 1200 := by
  have h2 := axis_le hl hg
  have h3 := mirF_btw hl hg i
  have h1 := left_bd hl hg hi
  have h4 := wid_bd hl hi
  rw [leftF] at h1; rw [rightF]; omega
omit hl hg in
theorem mir_gap {i : Nat} (hi : i < l.length) : g ≤ rightF l g i - leftF l g i - (bA l i).c := by
  have h1 := mir_base (g := g) hi; rw [rightF, leftF]; omega
omit hl hg in
theorem mir_sum (i : Int) : leftF l g i + (bA l i).c + rightF l g i = 2 * axisF l g := by rw [leftF, rightF]; omega
end
theorem drawCompactMirror_any (q : Option Addr) (n c : Nat) (l : List Int) (w : World) (h : SlT encU 1 w q n l) (hu : ∀ x ∈ l, 0 ≤ x ∧ x ≤ 255) (hn : n ≤ 1048576) :
    Calls Try.prog 39 #[.slice q n c] w (DrawnC w) := by
  go_enter Try.func39, Try.ntmps39
  go_wp2_with fail
  refine (drawConstraints_any q n c l _ h hu hn).mono ?_
  rintro e w1 ⟨p, d, bl, g, rfl, h1⟩
  go_wp2_with fail
  go_ret2
  exact ⟨p, d, bl, g, rfl, h1⟩
set_option maxRecDepth 100000 in
set_option maxHeartbeats 8000000 in
theorem fnMirror_any (q : Option Addr) (n c : Nat) (l : List Int) (w : World) (h : SlT encU 1 w q n l) (hu : ∀ x ∈ l, 0 ≤ x ∧ x ≤ 255) (hm : n ≤ maxLen) :
    Calls Try.prog 9 #[.slice q n c] w fun e w' => e = .returned (.bool true) ∧ Ext w w' := by
  unfold maxLen at hm
  have hbig := big_any q n c w hm
  go_enter Try.func9, Try.ntmps9
  by_cases hn : 4096 < (n : Int)
  · rw [decide_eq_true hn] at hbig
    go_wp2_with fail
    refine hbig.mono ?_
    rintro e w' ⟨rfl, rfl⟩
    go_wp2_with fail
    go_ret
    exact ⟨rfl, Ext.refl _⟩
  · rw [decide_eq_false hn] at hbig
    go_wp2_with fail
    refine hbig.mono ?_
    clear hbig
    rintro e w' ⟨rfl, rfl⟩
    go_wp2_with fail
    refine (drawCompactMirror_any q n c l _ h hu (by omega)).mono ?_
    rintro e w1 ⟨p, d, bl, g, rfl, hbl, hsm, hg0, hg1, hs1, E1⟩
    obtain ⟨N, hN⟩ : ∃ N, N = bl.length := ⟨_, rfl⟩
    rw [← hN] at hbl hs1 ⊢
    have hNI : (N : Int) ≤ 14 := by omega
    replace hN := hid hN
    replace hsm := hid hsm
    replace hu := hid hu
    by_cases hok : isBL bl = true ∧ wit g 0 8 = true
    · obtain ⟨hl, hg⟩ := hok
      have hlc := hid (left_comp hl hg)
      rw [← hN.out] at hlc
      replace hl := hid hl
      replace hg := hid hg
      go_wp2_with fail
      refine (CompactMirror_ok p N d bl g _ hs1 hl.out hg.out).mono ?_
      rintro e w2 ⟨qL, cL, qR, cR, rfl, oL, oR, -, E2⟩
      have sL := hid (tab_SlT oL)
      have sR := hid (tab_SlT oR)
      have hs2 := hid (hs1.ext E2)
      have E02 := hid (E1.trans E2)
      clear oL oR E1 E2 hs1
      have hic := IsCompatible_any p qL N N d cL bl (tab N (leftF bl g)) g w2 hs2.out sL.out (by omega) (by omega)
      rw [hlc.out] at hic
      go_wp2_with fail
      refine hic.mono ?_
      clear hic
      rintro e w3 ⟨rfl, E3⟩
      replace E02 := hid (E02.out.trans E3)
      replace sL := hid (sL.out.ext E3)
      replace sR := hid (sR.out.ext E3)
      replace hs2 := hid (hs2.out.ext E3)
      clear E3
      go_wp2_with fail
      go_loopw [8] (fun i wr => ∃ k : Nat, k ≤ N ∧ i = .int .i64 k ∧ Ext w3 wr) (fun i _ => N - (intOf i).toNat)
      case atStart => exact ⟨0, by omega, rfl, Ext.refl _⟩
      case round =>
        obtain ⟨k, hk, rfl, hX⟩ := hrel
        by_cases hkN : k < N
        · have hkI : (k : Int) < N := by omega
          have h0N : 0 < N := by omega
          have h0I : (0 : Int) < N := by omega
          obtain ⟨bl1, ol1, rfl, hb1, x1⟩ := sL.out.tab hkN
          obtain ⟨br1, or1, rfl, hb2, x2⟩ := sR.out.tab hkN
          obtain ⟨bb, ob, xk, rfl, hb3, hxk, m0, m1, m2, m3⟩ := hs2.out.four hkN
          obtain ⟨b', o', e1, -, x3⟩ := sL.out.tab h0N
          cases e1
          obtain ⟨b', o', e1, -, x4⟩ := sR.out.tab h0N
          cases e1
          obtain ⟨b', o', xz, e1, -, hxz, z0, z1, z2, z3⟩ := hs2.out.four h0N
          cases e1
          rw [Nat.zero_mul] at z2
          have hw1 := wid_bd hl.out (k := k) (by rw [← hN.out]; exact hkN)
          have hw2 := wid_bd hl.out (k := 0) (by rw [← hN.out]; exact h0N)
          have hL1 := left_bd hl.out hg.out (i := k) (by rw [← hN.out]; exact hkN)
          have hL2 := left_bd hl.out hg.out (i := 0) (by rw [← hN.out]; exact h0N)
          have hR1 := right_bd hl.out hg.out (i := k) (by rw [← hN.out]; exact hkN)
          have hR2 := right_bd hl.out hg.out (i := 0) (by rw [← hN.out]; exact h0N)
          have hgp := mir_gap (l := bl) (g := g) (i := k) (by rw [← hN.out]; exact hkN)
          have hs1' := mir_sum (l := bl) (g := g) k
          have hs2' := mir_sum (l := bl) (g := g) (0 : Nat)
          rw [bA_at hxk.out] at hw1 hgp hs1'
          rw [bA_at hxz.out] at hw2 hs2'
          obtain ⟨L, hL⟩ : ∃ v, v = leftF bl g k := ⟨_, rfl⟩
          obtain ⟨R, hR⟩ : ∃ v, v = rightF bl g k := ⟨_, rfl⟩
          obtain ⟨L0, hL0⟩ : ∃ v, v = leftF bl g (0 : Nat) := ⟨_, rfl⟩
          obtain ⟨R0, hR0⟩ : ∃ v, v = rightF bl g (0 : Nat) := ⟨_, rfl⟩
          rw [← hL] at x1 hL1 hgp hs1'
          rw [← hR] at x2 hR1 hgp hs1'
          rw [← hL0] at x3 hL2 hs2'
          rw [← hR0] at x4 hR2 hs2'
          obtain ⟨u1, u2⟩ := hw1
          obtain ⟨u3, u4⟩ := hw2
          obtain ⟨u5, u6⟩ := hL1
          obtain ⟨u7, u8⟩ := hL2
          obtain ⟨u9, ua⟩ := hR1
          obtain ⟨ub, uc⟩ := hR2
          have hd1 : decide (R - L - xk.c < g) = false := by simp; omega
          have hd2 : (L + xk.c + R != L0 + xz.c + R0) = false := by simp; omega
          have v1 : IntKind.i64.wrap (R - L) = R - L := IntWalk.i64_in _ (by omega)
          have v2 : IntKind.i64.wrap (R - L - xk.c) = R - L - xk.c := IntWalk.i64_in _ (by omega)
          have v3 : IntKind.i64.wrap (L + xk.c) = L + xk.c := IntWalk.i64_in _ (by omega)
          have v4 : IntKind.i64.wrap (L + xk.c + R) = L + xk.c + R := IntWalk.i64_in _ (by omega)
          have v5 : IntKind.i64.wrap (L0 + xz.c) = L0 + xz.c := IntWalk.i64_in _ (by omega)
          have v6 : IntKind.i64.wrap (L0 + xz.c + R0) = L0 + xz.c + R0 := IntWalk.i64_in _ (by omega)
          replace x1 := (hX.cells _ _ hb1).trans x1
          replace x2 := (hX.cells _ _ hb2).trans x2
          replace x3 := (hX.cells _ _ hb1).trans x3
          replace x4 := (hX.cells _ _ hb2).trans x4
          replace m2 := (hX.cells _ _ hb3).trans m2
          replace z2 := (hX.cells _ _ hb3).trans z2
          simp only [Nat.add_zero] at x3 x4 z2
          have hb1' : bl1 < wr.heap.size := by have := hX.le; omega
          have hb2' : br1 < wr.heap.size := by have := hX.le; omega
          have hb3' : bb < wr.heap.size := by have := hX.le; omega
          clear m0 m1 m3 z0 z1 z3 hs1' hs2' hgp
          replace hL := hid hL
          replace hR := hid hR
          replace hL0 := hid hL0
          replace hR0 := hid hR0
          go_wp2_with fail
          refine wp_region_later (by kernel_rfl) (by kernel_rfl) ?_
          repeat (go_big_quiet_step (fail))
          refine wpQuiet_nil ?_
          rintro w7 ⟨⟨_, h7⟩, rfl⟩
          go_wp2_with fail
          go_roundw
          case rel => exact ⟨k + 1, by omega, by go_num, hX.trans h7⟩
          case measure => simp [intOf]; omega
        · go_wp2_with fail
          go_ret
          exact ⟨rfl, E02.out.trans hX⟩
    · have hk := codeB_bad hok
      have hc1 := CompactMirror_bad p N d bl g w1 hs1 (by omega) hok
      obtain ⟨K, hK⟩ : ∃ K, K = codeB bl g := ⟨_, rfl⟩
      rw [← hK] at hc1 hk
      replace hK := hid hK
      have hd : (K != 0) = true := by simpa using hk
      go_wp2_with fail
      refine hc1.mono ?_
      clear hc1
      rintro e w2 ⟨rfl, E2⟩
      go_wp2_with fail
      go_ret
      exact ⟨rfl, E1.trans E2⟩
end Go.Proofs.Ytnhiepgfgnemkaa
