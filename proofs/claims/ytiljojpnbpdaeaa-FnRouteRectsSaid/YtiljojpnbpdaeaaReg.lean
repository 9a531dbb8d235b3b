/- Contracts of IsRegion, program and reference: both answer whether the list is the region of its own unit cells. Condition: at most 2^20 rectangles. -/
import Derived.Test.YtiljojpnbpdaeaaSp4
namespace Go.Proofs.Ytiljojpnbpdaeaa
open Go.RowKit

theorem vRs_parts {l : List Q4} (h : vRs l = true) : l.length ≤ 3200 ∧ ∀ r ∈ l, vR r = true := by
  rw [vRs, Bool.and_eq_true, decide_eq_true_eq, List.all_eq_true] at h; exact h
theorem area_bd {r : Q4} (h : vR r = true) : 0 ≤ (r.c - r.a) * (r.d - r.b) ∧ (r.c - r.a) * (r.d - r.b) ≤ 6400 := by
  rw [vR_iff] at h
  obtain ⟨⟨a0, a1, a2⟩, b0, b1, b2⟩ := h
  refine ⟨Int.mul_nonneg (by omega) (by omega), ?_⟩
  have h1 := Int.mul_le_mul_of_nonneg_right (show r.c - r.a ≤ 80 by omega) (show 0 ≤ r.d - r.b by omega)
  omega
theorem areaL_bd : ∀ (l : List Q4), (∀ r ∈ l, vR r = true) → 0 ≤ areaL l ∧ areaL l ≤ 6400 * (l.length : Int)
  | [], _ => by simp [areaL_nil]
  | r :: l, h => by
    have h1 := area_bd (h r (by simp))
    have h2 := areaL_bd l (fun x hx => h x (by simp [hx]))
    rw [areaL_cons, List.length_cons]
    omega
theorem isReg_false_valid {l : List Q4} (h : vRs l = false) : isReg l = false := by rw [isReg, h]; rfl
set_option maxHeartbeats 1000000 in
theorem RectArea_any (r : Q4) (w : World) (hv : vR r = true) :
    Calls Try.prog 89 #[.agg #[.int .i64 r.a, .int .i64 r.b, .int .i64 r.c, .int .i64 r.d]] w fun e w' => e = .returned (.int .i64 ((r.c - r.a) * (r.d - r.b))) ∧ Ext w w' := by
  obtain ⟨h0, h1⟩ := area_bd hv
  have hv2 := vR_iff.1 hv
  obtain ⟨⟨a0, a1, a2⟩, b0, b1, b2⟩ := hv2
  have hcall := fun W => specIsValidRect_any r W
  rw [hv] at hcall
  replace hv := hid hv
  go_enter Try.func89, Try.ntmps89
  go_wp2_with fail
  refine (hcall _).mono ?_
  rintro e w2 ⟨rfl, E2⟩
  have hc := E2.cells
  have hz := E2.le
  have g0 := hc w.heap.size 0 (by simp)
  have g1 := hc w.heap.size 1 (by simp)
  have g2 := hc w.heap.size 2 (by simp)
  have g3 := hc w.heap.size 3 (by simp)
  clear hc
  go_wp2_with fail
  go_ret
  exact ⟨rfl, ((Ext.refl _).alloc _).trans E2⟩
set_option maxRecDepth 100000 in
set_option maxHeartbeats 4000000 in
theorem l03Ok_any (q : Option Addr) (n c : Nat) (l : List Q4) (w : World) (h : SlT enc4 4 w q n l) (hn : n ≤ 1048576) :
    Calls Try.prog 51 #[.slice q n c] w fun e w' => e = .returned (.bool (isReg l)) ∧ Ext w w' := by
  have hl := hid h.length
  have hcall := fun W (hW : Ext w W) => l03Valid_any q n c l W (h.ext hW) hn
  cases hv : vRs l with
  | false =>
    have hr := hid (isReg_false_valid hv)
    rw [hv] at hcall
    clear hv
    go_enter Try.func51, Try.ntmps51
    go_wp2_with fail
    refine (hcall _ (Ext.refl _)).mono ?_
    rintro e w2 ⟨rfl, E2⟩
    clear hcall
    go_wp2_with fail
    go_ret
    exact ⟨ret_bool hr.out.symm, E2⟩
  | true =>
    obtain ⟨h3, hvs⟩ := vRs_parts hv
    have hvr := hid hv
    rw [hv] at hcall
    rw [hl.out] at h3
    have hvs := hid hvs
    clear hv
    go_enter Try.func51, Try.ntmps51
    go_wp2_with fail
    refine (hcall _ (Ext.refl _)).mono ?_
    rintro e w2 ⟨rfl, E2⟩
    clear hcall
    go_wp2_with fail
    go_loopw [3, 4] (fun a i wr => ∃ k : Nat, k ≤ n ∧ i = .int .i64 k ∧ a = .int .i64 (areaL (l.take k)) ∧ Ext w wr) (fun _ i _ => n - (intOf i).toNat)
    case atStart => exact ⟨0, by omega, rfl, rfl, E2⟩
    case round =>
      clear E2
      obtain ⟨k, hk, rfl, rfl, hE⟩ := hrel
      have hbd := areaL_bd (l.take k) (fun r hr => hvs.out r (List.mem_of_mem_take hr))
      have hkl : (l.take k).length ≤ k := List.length_take_le _ _
      by_cases hlt : k < n
      · obtain ⟨b, off, r, rfl, hb, hr, c0, c1, c2, c3⟩ := (h.ext hE).four hlt
        have hvx := hvs.out r (List.mem_of_getElem? hr.out)
        have hb1 := area_bd hvx
        have hA2 : Hid (areaL (l.take k) + (r.c - r.a) * (r.d - r.b) = areaL (l.take (k + 1))) := by
          show _ = _
          rw [take_snoc hr.out, areaL_append, areaL_cons, areaL_nil]; omega
        have hkI : (k : Int) < n := by omega
        replace hvx := hid hvx
        obtain ⟨A, hA⟩ : ∃ A, A = areaL (l.take k) := ⟨_, rfl⟩
        rw [← hA] at hbd hA2 ⊢
        replace hA := hid hA
        go_wp2_with fail
        refine (RectArea_any r _ hvx.out).mono ?_
        rintro e w3 ⟨rfl, E3⟩
        have hE2 := hid (hE.trans E3)
        clear hE E3 c0 c1 c2 c3
        go_wp2_with fail
        go_roundw
        case rel => exact ⟨k + 1, by omega, by go_num, by rw [hA2.out], hE2.out⟩
        case measure => simp [intOf]; omega
      · have hkI : ¬ (k : Int) < n := by omega
        have hta : l.take k = l := take_all hl.out (by omega)
        rw [hta] at hbd ⊢
        replace hta := hid hta
        by_cases h64 : areaL l ≤ 6400
        · have h64 := hid h64
          have h64' : areaL l ≤ 6400 := h64.out
          have hrr : Hid (decide (canon (gL l) = l) = isReg l) := by show _ = _; rw [isReg, hvr.out, Bool.true_and]
          obtain ⟨A, hA⟩ : ∃ A, A = areaL l := ⟨_, rfl⟩
          rw [← hA] at hbd h64' ⊢
          replace hA := hid hA
          have hsl := hid (h.ext hE)
          go_wp2_with fail
          refine (l03Bits_any q n c l _ hsl.out hn hvs.out).mono ?_
          rintro e w3 ⟨B, rfl, o3, E3⟩
          have b3 := Bits.of o3
          clear o3
          go_wp2_with fail
          refine (l03Canon_any B _ (gL l) _ b3).mono ?_
          rintro e w4 ⟨q4, c4, rfl, o4, E4⟩
          have s4 := SlT.of_owns (l := canon (gL l)) enc4_len rfl o4
          have hE4 := hid ((hE.trans E3).trans E4)
          have hcl := canon_len (gL l)
          clear o4 b3 hE E3 E4
          go_wp2_with fail
          refine (l03Same_any q4 q _ n c4 c (canon (gL l)) l _ s4 (h.ext hE4.out) (by omega) hn).mono ?_
          rw [hrr.out]
          rintro e w5 ⟨rfl, E5⟩
          have hE5 := hid (hE4.out.trans E5)
          clear s4 E5
          go_wp2_with fail
          go_ret
          exact ⟨rfl, hE5.out⟩
        · have hrr : Hid (false = isReg l) := by
            show _ = _
            rw [isReg, hvr.out, Bool.true_and, eq_comm, decide_eq_false_iff_not]
            intro hc
            exact h64 (isReg_area hc).2
          have hd : decide (areaL l ≤ 6400) = false := decide_eq_false h64
          go_wp2_with fail
          go_ret
          exact ⟨ret_bool hrr.out, hE⟩
set_option maxHeartbeats 1000000 in
theorem IsRegion_any (q : Option Addr) (n c : Nat) (l : List Q4) (w : World) (h : SlT enc4 4 w q n l) (hn : n ≤ 1048576) :
    Calls Try.prog 83 #[.slice q n c] w fun e w' => e = .returned (.bool (isReg l)) ∧ Ext w w' := by
  have hl := hid h.length
  have hcall := validRects_any q n c l w h hn
  cases hv : vRs l with
  | false =>
    have hr := hid (isReg_false_valid hv)
    rw [hv] at hcall
    clear hv
    go_enter Try.func83, Try.ntmps83
    go_wp2_with fail
    refine hcall.mono ?_
    rintro e w2 ⟨rfl, E2⟩
    go_wp2_with fail
    go_ret
    exact ⟨ret_bool hr.out.symm, E2⟩
  | true =>
    obtain ⟨h3, hvs⟩ := vRs_parts hv
    have hrr : Hid (decide (canon (gL l) = l) = isReg l) := by show _ = _; rw [isReg, hv, Bool.true_and]
    have hvs := hid hvs
    rw [hv] at hcall
    clear hv
    go_enter Try.func83, Try.ntmps83
    go_wp2_with fail
    refine hcall.mono ?_
    rintro e w2 ⟨rfl, E2⟩
    go_wp2_with fail
    refine (cellsOf_any q n c l _ (h.ext E2) hn (fun r hr => vR_near (hvs.out r hr))).mono ?_
    rintro e w3 ⟨B, rfl, hB, b3, E3⟩
    go_wp2_with fail
    refine (region_any B (gL l) _ b3).mono ?_
    rintro e w4 ⟨q4, c4, rfl, o4, E4⟩
    have s4 := SlT.of_owns (l := canon (gL l)) enc4_len rfl o4
    have hE4 := hid ((E2.trans E3).trans E4)
    have hcl := canon_len (gL l)
    clear o4 b3 hB E2 E3 E4
    go_wp2_with fail
    refine (slicesEqual_any q4 q _ n c4 c (canon (gL l)) l _ s4 (h.ext hE4.out) (by omega) hn).mono ?_
    rw [hrr.out]
    rintro e w5 ⟨rfl, E5⟩
    have hE5 := hid (hE4.out.trans E5)
    clear s4 E5
    go_wp2_with fail
    go_ret
    exact ⟨rfl, hE5.out⟩
end Go.Proofs.Ytiljojpnbpdaeaa
