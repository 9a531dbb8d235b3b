/- Contract of IsRoute (reference), and the law FnExactIsRoute. Condition: at most 2^20 rectangles and points. -/
import Derived.Test.YtiljojpnbpdaeaaIrt
import Derived.Test.YtiljojpnbpdaeaaArR
namespace Go.Proofs.Ytiljojpnbpdaeaa
open Go.RowKit

def rtG (l : List Q4) (ps : List Q2) (k : Nat) (x y : Int) : Bool := gh (gL l) x y || decide ((⟨x, y⟩ : Q2) ∈ ps.take k)
theorem rtG_at {l : List Q4} {ps : List Q2} {k : Nat} {p : Q2} (h : onC p.a p.b = true) : gmk (rtG l ps k) (atG p.a p.b) = (gh (gL l) p.a p.b || decide (p ∈ ps.take k)) := gmk_at _ h
theorem rtG_set {l : List Q4} {ps : List Q2} {k : Nat} {p : Q2} (hp : ps[k]? = some p) (h : onC p.a p.b = true) : (gcells (gmk (rtG l ps k))).set (atG p.a p.b) (.bool true) = gcells (gmk (rtG l ps (k + 1))) := by
  rw [gcells_set]
  refine gset_gmk _ h fun x y _ => ?_
  rw [rtG, rtG, take_snoc hp]
  by_cases he : x = p.a ∧ y = p.b
  · obtain ⟨rfl, rfl⟩ := he; simp
  · rw [if_neg he]
    have : (⟨x, y⟩ : Q2) ≠ p := fun e => he (by rw [← e]; simp)
    simp [this]
theorem rtG_zero (l : List Q4) (ps : List Q2) : gcells (gL l) = gcells (gmk (rtG l ps 0)) := by
  refine gcells_gh fun x y hc => ?_
  rw [gh_gmk _ hc, rtG]; simp
theorem okAt_rt {l : List Q4} {ps : List Q2} {k : Nat} {p : Q2} (h : ps[k]? = some p) (hc : onC p.a p.b = true) : okAt (gL l) ps k = (!gmk (rtG l ps k) (atG p.a p.b) && (decide (k = 0) || adjB (ps.getD (k - 1) ⟨0, 0⟩) p)) := by
  rw [okAt_some h, rtG_at hc, hc]; simp
set_option maxRecDepth 100000 in
set_option maxHeartbeats 4000000 in
theorem specIsRoute_any (q : Option Addr) (n c : Nat) (l : List Q4) (q2 : Option Addr) (n2 c2 : Nat) (ps : List Q2) (w : World) (h : SlT enc4 4 w q n l) (h2 : SlT enc2 2 w q2 n2 ps) (hn : n ≤ 1048576) (hn2 : n2 ≤ 1048576) :
    Calls Try.prog 22 #[.slice q n c, .slice q2 n2 c2] w fun e w' => e = .returned (.bool (isRt l ps)) ∧ Ext w w' := by
  have hl2 := hid h2.length
  have hcall := l03Ok_any q n c l w h hn
  cases h1 : isReg l with
  | false =>
    have hr : Hid (false = isRt l ps) := by show _ = _; rw [isRt, h1]; rfl
    rw [h1] at hcall
    clear h1
    go_enter Try.func22, Try.ntmps22
    go_wp2_with fail
    refine hcall.mono ?_
    rintro e w2 ⟨rfl, E2⟩
    go_wp2_with fail
    go_ret
    exact ⟨ret_bool hr.out, E2⟩
  | true =>
    rw [h1] at hcall
    by_cases h0 : n2 = 0
    · have hr : Hid (false = isRt l ps) := by show _ = _; rw [isRt, hl2.out, h0]; simp
      subst h0
      clear h1
      go_enter Try.func22, Try.ntmps22
      go_wp2_with fail
      refine hcall.mono ?_
      rintro e w2 ⟨rfl, E2⟩
      go_wp2_with fail
      go_ret
      exact ⟨ret_bool hr.out, E2⟩
    · have hvs := hid (vRs_parts (isReg_iff.1 h1).1).2
      have h1' := hid h1
      have hd : ((n2 : Int) == 0) = false := by simpa using h0
      clear h1
      go_enter Try.func22, Try.ntmps22
      go_wp2_with fail
      refine hcall.mono ?_
      rintro e w2 ⟨rfl, E2⟩
      clear hcall
      go_wp2_with fail
      refine (l03Bits_any q n c l _ (h.ext E2) hn hvs.out).mono ?_
      rintro e w3 ⟨B, rfl, o3, E3⟩
      have hBN : Hid (w.heap.size ≤ B) := by show _ ≤ _; have := (owns_lt o3).1; have := E2.le; omega
      have ho3 : w3.ownsRow w.heap.size 4 1 (.slice (some ⟨B, 0, none⟩) 6400 6400) 6400 (gcells (gmk (rtG l ps 0))) := by
        rw [← rtG_zero]; exact Joins.ownsRow_le o3 E2.le
      have hE3 := hid (E2.trans E3)
      clear o3 E2 E3
      go_wp2_with fail
      go_loopw [6] (fun i wr => ∃ k : Nat, k ≤ n2 ∧ i = .int .i64 k ∧ wr.ownsRow w.heap.size 4 1 (.slice (some ⟨B, 0, none⟩) 6400 6400) 6400 (gcells (gmk (rtG l ps k))) ∧ Hid ((List.range k).all (okAt (gL l) ps) = true) ∧ Ext w wr) (fun i _ => n2 - (intOf i).toNat)
      case atStart => exact ⟨0, by omega, rfl, ho3, (by show _ = _; rfl), hE3.out⟩
      case round =>
        clear ho3 hE3
        obtain ⟨k, hk, rfl, ho, hA, hE⟩ := hrel
        by_cases hlt : k < n2
        · obtain ⟨bp, op, p, rfl, hbp, hp, p0, p1⟩ := (h2.ext hE).two hlt
          have hkI : (k : Int) < n2 := by omega
          have hu := fun W => l09Unit_any p.a p.b W
          cases hc : onC p.a p.b with
          | false =>
            have hr : Hid (false = isRt l ps) := (isRt_false (by rw [hl2.out]; exact hlt) (by rw [okAt_some hp.out, hc]; rfl)).symm
            rw [hc] at hu
            replace hu := hid hu
            clear hc ho
            go_wp2_with fail
            refine wp_region_later (by kernel_rfl) (by kernel_rfl) ?_
            repeat (go_big_quiet_step ((go_at_call 53; exact later_of (hu.out _))))
            refine wpQuiet_nil ?_
            rintro w5 ⟨⟨_, E5⟩, rfl⟩
            have hE5 := hid (hE.trans E5)
            clear p0 p1 hE E5
            go_wp2_with fail
            go_ret
            exact ⟨ret_bool hr.out, hE5.out⟩
          | true =>
            rw [hc] at hu
            replace hu := hid hu
            have hok := hid (okAt_rt (l := l) hp.out hc)
            have hat := atG_lt hc
            have hatI : (atG p.a p.b : Int) < 6400 := by omega
            have z0 := ho.cellAt (atG p.a p.b) (by omega)
            rw [gcells_get _ hat] at z0
            have hBl := (owns_lt ho).2
            have hcc := hid hc
            have hst := hid (rtG_set (l := l) hp.out hc)
            replace ho := hid ho
            clear hc
            cases hg : gmk (rtG l ps k) (atG p.a p.b) with
            | true =>
              have hr : Hid (false = isRt l ps) := (isRt_false (by rw [hl2.out]; exact hlt) (by rw [hok.out, hg]; rfl)).symm
              rw [hg] at z0
              clear hg
              go_wp2_with fail
              refine wp_region_later (by kernel_rfl) (by kernel_rfl) ?_
              repeat (go_big_quiet_step ((first | (go_at_call 53; exact later_of (hu.out _)) | (go_at_call 54; exact later_same (l03At_any _ _ _ hcc.out)))))
              refine wpQuiet_nil ?_
              rintro w5 ⟨⟨_, E5⟩, rfl⟩
              have hE5 := hid (hE.trans E5)
              clear p0 p1 hE E5
              go_wp2_with fail
              go_ret
              exact ⟨ret_bool hr.out, hE5.out⟩
            | false =>
              rw [hg] at z0
              have hgg := hid hg
              clear hg
              by_cases hk0 : k = 0
              · have hA2 : Hid ((List.range (k + 1)).all (okAt (gL l) ps) = true) := all_range_snoc hA.out (by rw [hok.out, hgg.out]; simp [hk0])
                have hk0I : decide ((0 : Int) < (k : Int)) = false := by simp; omega
                have hk0N : decide (0 < k) = false := by simp; omega
                replace hk0 := hid hk0
                clear hA
                go_wp2_with fail
                refine wp_region_later (by kernel_rfl) (by kernel_rfl) ?_
                repeat (go_big_quiet_step ((first | (go_at_call 53; exact later_of (hu.out _)) | (go_at_call 54; exact later_same (l03At_any _ _ _ hcc.out)))))
                refine wpQuiet_nil ?_
                rintro w5 ⟨⟨_, E5⟩, rfl⟩
                have hE5 := hid (hE.trans E5)
                replace p0 := (E5.cells _ _ hbp).trans p0
                replace p1 := (E5.cells _ _ hbp).trans p1
                have ho5 := hid (owns_ext ho.out E5)
                have hbp5 := Nat.lt_of_lt_of_le hbp E5.le
                have hBl5 := Nat.lt_of_lt_of_le hBl E5.le
                replace z0 := (E5.cells _ _ hBl).trans z0
                have hf := owns_free ho5.out
                clear hE E5 ho
                go_wp2_with fail
                refine wp_region_still_tail 13 (by kernel_rfl) (by kernel_rfl) ?_
                simp only [List.take_succ_cons, List.take_zero, List.drop_succ_cons, List.drop_zero]
                iterate 11 still_step
                still_call ((l03At_any _ _ _ hcc.out).mono fun _ _ h => ⟨h.1, h.2.symm⟩)
                still_step
                refine wpStill_nil ?_
                change wpList _ _ _ _ _ w5.drew
                go_wp2_with fail
                go_roundw
                case rel => exact ⟨k + 1, by omega, by go_num, by rw [← hst.out]; exact (owns_set ho5.out.drew _ _), hA2, hE5.out.drew.setCell (p := ⟨B, _, none⟩) hBN.out _⟩
                case measure => simp [intOf]; omega
              · have hkP : 0 < k := by omega
                obtain ⟨bq, oq, pr, hpb, hbq, hpr, r0, r1⟩ := (h2.ext hE).two (k := k - 1) (by omega)
                cases hpb
                have hprn : Hid (NearP pr) := by
                  have h1 := List.all_eq_true.1 hA.out (k - 1) (List.mem_range.2 (by omega))
                  rw [okAt_some hpr.out, Bool.and_eq_true, Bool.and_eq_true, Bool.and_eq_true] at h1
                  exact onC_near h1.1.1.1
                have hprL : Hid (ps.getD (k - 1) ⟨0, 0⟩ = pr) := getD_of hpr.out
                have hkPI : (0 : Int) < (k : Int) := by omega
                have hwm : IntKind.i64.wrap ((k : Int) - 1) = (k : Int) - 1 := IntWalk.i64_in _ (by omega)
                have hwt : ((k : Int) - 1).toNat = k - 1 := by omega
                have hw0 : (0 : Int) ≤ (k : Int) - 1 := by omega
                have hw1 : (k : Int) - 1 < (n2 : Int) := by omega
                have hw2 : (1 : Int) ≤ (k : Int) := by omega
                have hj0 := fun W => l32Adjacent_any pr p W hprn.out (onC_near hcc.out)
                replace hk0 := hid hk0
                cases hj : adjB pr p with
                | false =>
                  have hr : Hid (false = isRt l ps) := (isRt_false (by rw [hl2.out]; exact hlt) (by rw [hok.out, hgg.out, hprL.out, hj]; simp; omega)).symm
                  rw [hj] at hj0
                  replace hj0 := hid hj0
                  clear hj
                  go_wp2_with fail
                  refine wp_region_later (by kernel_rfl) (by kernel_rfl) ?_
                  repeat (go_big_quiet_step ((first | (go_at_call 53; exact later_of (hu.out _)) | (go_at_call 54; exact later_same (l03At_any _ _ _ hcc.out)) | (go_at_call 55; exact later_of (hj0.out _)))))
                  refine wpQuiet_nil ?_
                  rintro w5 ⟨⟨_, E5⟩, rfl⟩
                  have hE5 := hid (hE.trans E5)
                  clear p0 p1 hE E5 r0 r1 hwm hwt hw0
                  go_wp2_with fail
                  go_ret
                  exact ⟨ret_bool hr.out, hE5.out⟩
                | true =>
                  have hA2 : Hid ((List.range (k + 1)).all (okAt (gL l) ps) = true) := all_range_snoc hA.out (by rw [hok.out, hgg.out, hprL.out, hj]; simp)
                  clear hA
                  rw [hj] at hj0
                  replace hj0 := hid hj0
                  clear hj
                  go_wp2_with fail
                  refine wp_region_later (by kernel_rfl) (by kernel_rfl) ?_
                  repeat (go_big_quiet_step ((first | (go_at_call 53; exact later_of (hu.out _)) | (go_at_call 54; exact later_same (l03At_any _ _ _ hcc.out)) | (go_at_call 55; exact later_of (hj0.out _)))))
                  refine wpQuiet_nil ?_
                  rintro w5 ⟨⟨_, E5⟩, rfl⟩
                  have hE5 := hid (hE.trans E5)
                  replace p0 := (E5.cells _ _ hbp).trans p0
                  replace p1 := (E5.cells _ _ hbp).trans p1
                  have ho5 := hid (owns_ext ho.out E5)
                  have hbp5 := Nat.lt_of_lt_of_le hbp E5.le
                  have hBl5 := Nat.lt_of_lt_of_le hBl E5.le
                  replace z0 := (E5.cells _ _ hBl).trans z0
                  have hf := owns_free ho5.out
                  clear hE E5 ho r0 r1 hwm hwt hw0
                  go_wp2_with fail
                  refine wp_region_still_tail 13 (by kernel_rfl) (by kernel_rfl) ?_
                  simp only [List.take_succ_cons, List.take_zero, List.drop_succ_cons, List.drop_zero]
                  iterate 11 still_step
                  still_call ((l03At_any _ _ _ hcc.out).mono fun _ _ h => ⟨h.1, h.2.symm⟩)
                  still_step
                  refine wpStill_nil ?_
                  change wpList _ _ _ _ _ w5.drew
                  go_wp2_with fail
                  go_roundw
                  case rel => exact ⟨k + 1, by omega, by go_num, by rw [← hst.out]; exact (owns_set ho5.out.drew _ _), hA2, hE5.out.drew.setCell (p := ⟨B, _, none⟩) hBN.out _⟩
                  case measure => simp [intOf]; omega
        · have hr : Hid (true = isRt l ps) := by
            have := hA.out
            rw [show k = ps.length by rw [hl2.out]; omega] at this
            exact (isRt_true h1'.out (by rw [hl2.out]; omega) this).symm
          have hkI : ¬ (k : Int) < n2 := by omega
          go_wp2_with fail
          go_ret
          exact ⟨ret_bool hr.out, hE⟩
end Go.Proofs.Ytiljojpnbpdaeaa
