/- The law FnMasks. No condition but that the code's length fits. -/
import Derived.Test.YtaigndaabmelhaaMsq
import Derived.Test.YtaigndaabmelhaaDpt
namespace Go.Proofs.Ytaigndaabmelhaa
open Go.RowKit

set_option maxRecDepth 100000 in
set_option maxHeartbeats 4000000 in
theorem sameRects_any (p1 p2 : Option Addr) (n m k1 k2 : Nat) (l l' : List Q4) (w : World) (h1 : SlT enc4 4 w p1 n l) (h2 : SlT enc4 4 w p2 m l') (hn : n ≤ 1048576) (hm : m ≤ 1048576) :
    Calls Try.prog 37 #[.slice p1 n k1, .slice p2 m k2] w fun e w' => e = .returned (.bool (decide (l = l'))) ∧ Ext w w' := by
  have hl := hid h1.length
  have hl' := hid h2.length
  by_cases hnm : n = m
  · subst hnm
    go_enter Try.func37, Try.ntmps37
    go_wp2
    go_loopw [5] (fun i wr => ∃ k : Nat, k ≤ n ∧ i = .int .i64 k ∧ Hid (SameTo k l l') ∧ Ext w wr) (fun i _ => n - (intOf i).toNat)
    case atStart => exact ⟨0, by omega, rfl, (fun i hi => by omega), Ext.refl _⟩
    case round =>
      obtain ⟨k, hk, rfl, hS, hE⟩ := hrel
      by_cases hlt : k < n
      · obtain ⟨b, off, x, rfl, hb, hx, c0, c1, c2, c3⟩ := (h1.ext hE).four hlt
        obtain ⟨b', off', x', rfl, hb', hx', d0, d1, d2, d3⟩ := (h2.ext hE).four hlt
        have hkI : (k : Int) < n := by omega
        by_cases hxx : x = x'
        · subst hxx
          have hS2 : Hid (SameTo (k + 1) l l') := hS.out.go hx.out hx'.out
          have hxx : Hid (decide (x = x) = true) := by show _ = _; simp
          clear hS
          go_wp2_with fail
          refine wp_region_later (by kernel_rfl) (by kernel_rfl) ?_
          repeat (go_big_quiet_step (fail))
          refine wpQuiet_nil ?_
          rintro w2 ⟨⟨_, E2⟩, rfl⟩
          have hE2 := hid (hE.trans E2)
          clear hE E2 c0 c1 c2 c3 d0 d1 d2 d3
          go_wp2_with fail
          go_roundw
          case rel => exact ⟨k + 1, by omega, by go_num, hS2, hE2.out⟩
          case measure => simp [intOf]; omega
        · have hr : Hid (decide (l = l') = false) := decide_eq_false (differ hx.out hx'.out hxx)
          replace hxx := hid hxx
          clear hS
          go_wp2_with fail
          refine wp_region_later (by kernel_rfl) (by kernel_rfl) ?_
          repeat (go_big_quiet_step (fail))
          go_big_quiet_want
          refine quiet_neq4 _ _ _ rfl x x' rfl rfl true (by rw [show decide (x = x') = false from decide_eq_false hxx.out]; simp) ?_
          go_simp
          go_big_quiet_on
          repeat (go_big_quiet_step (fail))
          refine wpQuiet_nil ?_
          rintro w2 ⟨⟨_, E2⟩, rfl⟩
          have hE2 := hid (hE.trans E2)
          clear hE E2 c0 c1 c2 c3 d0 d1 d2 d3
          go_wp2_with fail
          go_ret
          exact ⟨ret_bool hr.out.symm, hE2.out⟩
      · have hr : Hid (decide (l = l') = true) := decide_eq_true (hS.out.all (by rw [hl.out]; omega) (by rw [hl'.out]; omega))
        have hkI : ¬ (k : Int) < n := by omega
        go_wp2_with fail
        go_ret
        exact ⟨ret_bool hr.out.symm, hE⟩
  · have hr : Hid (decide (l = l') = false) := decide_eq_false (fun e => hnm (by rw [← hl.out, ← hl'.out, e]))
    have hd : ((n : Int) == (m : Int)) = false := by simpa using fun e : (n : Int) = m => hnm (by omega)
    have hd2 : ¬ (n : Int) = m := by omega
    go_enter Try.func37, Try.ntmps37
    go_wp2
    go_ret
    exact ⟨ret_bool hr.out.symm, Ext.refl _⟩
set_option maxHeartbeats 400000 in
theorem bigM_any (q : Option Addr) (n c : Nat) (w : World) :
    Calls Try.prog 24 #[.slice q n c] w fun e w' => e = .returned (.bool (decide (4096 < (n : Int)))) ∧ w = w' := by
  by_cases h : 4096 < (n : Int)
  · go_enter Try.func24, Try.ntmps24
    go_wp2
    go_ret
    exact ⟨ret_bool (by simp [h]), rfl⟩
  · go_enter Try.func24, Try.ntmps24
    go_wp2
    go_ret
    exact ⟨ret_bool (by simp [h]), rfl⟩
theorem bin_or {l : List Q4} {s : Int} (h : cpC l s = 0) : canon (binG (· || ·) (gL (smL l s true)) (gL (smL l s false))) = l := by
  obtain ⟨_, hreg, _⟩ := ptC_parts (cpC_parts h).1
  have vl := (vRs_parts (isReg_iff.1 hreg).1).2
  have hreg2 := (isReg_iff.1 hreg).2
  refine Eq.trans (canon_congr (g' := gL l) fun x y => ?_) hreg2
  rw [gh_gL vl, ← mask_union h true x y, ← gh_gL (smL_v l s true), ← gh_gL (smL_v l s (!true))]
  exact gh_bin rfl _ _ _ _
set_option maxRecDepth 100000 in
set_option maxHeartbeats 16000000 in
theorem fnMasks_any (q : Option Addr) (n c : Nat) (l : List Int) (w : World) (h : SlT encU 1 w q n l) (hu : ∀ x ∈ l, 0 ≤ x ∧ x ≤ 255) (_hm : n ≤ maxLen) :
    Calls Try.prog 7 #[.slice q n c] w fun e w' => e = .returned (.bool true) ∧ Ext w w' := by
  have hu := hid hu
  clear _hm
  by_cases hbig : 4096 < (n : Int)
  · have hbd : Hid (decide (4096 < (n : Int)) = true) := decide_eq_true hbig
    go_enter Try.func7, Try.ntmps7
    go_wp2_with fail
    refine (bigM_any q n c _).mono ?_
    rw [hbd.out]
    rintro e w' ⟨rfl, rfl⟩
    go_wp2_with fail
    go_ret
    exact ⟨rfl, Ext.refl _⟩
  · have hn : n ≤ 1048576 := by omega
    have hbd : Hid (decide (4096 < (n : Int)) = false) := decide_eq_false hbig
    go_enter Try.func7, Try.ntmps7
    go_wp2_with fail
    refine (bigM_any q n c _).mono ?_
    rw [hbd.out]
    rintro e w' ⟨rfl, rfl⟩
    clear hbig
    go_wp2_with fail
    refine (drawSplitMasks_any q n c l _ h hu.out hn).mono ?_
    rintro e w1 ⟨q1, n1, c1, l1, s, rfl, s1, hn1, E1⟩
    replace s1 := hid s1
    replace E1 := hid E1
    go_wp2_with fail
    refine (SplitMasks_any q1 n1 c1 l1 s _ s1.out (by omega)).mono ?_
    rintro e w2 ⟨qa, ca, qb, cb, rfl, oa, ob, _, E2⟩
    have sa := hid (SlT.of_owns (l := smL l1 s true) enc4_len rfl oa)
    have sb := hid (SlT.of_owns (l := smL l1 s false) enc4_len rfl ob)
    have hla := smL_len l1 s true
    have hlb := smL_len l1 s false
    replace E1 := hid (E1.out.trans E2)
    replace s1 := hid (s1.out.ext E2)
    clear oa ob E2
    by_cases hc : cpC l1 s = 0
    · have hp1 := hid (masks_pair hc true)
      have hp2 := hid (masks_pair hc false)
      have hun := hid (bin_or hc)
      have ra := hid (smL_reg l1 s true)
      have rb := hid (smL_reg l1 s false)
      rw [hc]
      obtain ⟨A, hA⟩ : ∃ A, A = smL l1 s true := ⟨_, rfl⟩
      obtain ⟨B, hB⟩ : ∃ B, B = smL l1 s false := ⟨_, rfl⟩
      have hp1 : Hid (mpV l1 s A B = true) := by rw [hA, hB]; exact hp1
      have hp2 : Hid (mpV l1 s B A = true) := by rw [hA, hB]; exact hp2
      rw [← hA] at sa hla ra hun ⊢
      rw [← hB] at sb hlb rb hun ⊢
      replace hA := hid hA
      replace hB := hid hB
      replace hc := hid hc
      go_wp2_with fail
      with_reducible refine (IsMaskPair_any q1 qa qb n1 c1 A.length ca B.length cb l1 A B s _ s1.out sa.out sb.out (by omega) (by omega) (by omega)).mono ?_
      rw [hp1.out]
      rintro e w3 ⟨rfl, E3⟩
      replace E3 := hid E3
      go_wp2_with fail
      with_reducible refine (IsMaskPair_any q1 qb qa n1 c1 B.length cb A.length ca l1 B A s _ (s1.out.ext E3.out) (sb.out.ext E3.out) (sa.out.ext E3.out) (by omega) (by omega) (by omega)).mono ?_
      rw [hp2.out]
      rintro e w4 ⟨rfl, E4⟩
      replace E4 := hid (E3.out.trans E4)
      go_wp2_with fail
      with_reducible refine (Union_any qa qb A.length B.length ca cb A B _ (sa.out.ext E4.out) (sb.out.ext E4.out) (by omega) (by omega) ra.out rb.out).mono ?_
      rw [hun.out]
      rintro e w5 ⟨q5, c5, rfl, o5, E5⟩
      have s5 := hid (SlT.of_owns (l := l1) enc4_len rfl o5)
      have hl1 := s1.out.length
      rw [hl1] at s5 ⊢
      replace hl1 := hid hl1
      replace E4 := hid (E4.out.trans E5)
      clear o5 E5 E3
      go_wp2_with fail
      with_reducible refine (sameRects_any q5 q1 n1 n1 c5 c1 l1 l1 _ s5.out (s1.out.ext E4.out) (by omega) (by omega)).mono ?_
      rw [decide_eq_true rfl]
      rintro e w6 ⟨rfl, E6⟩
      go_wp2_with fail
      go_ret
      exact ⟨rfl, E1.out.trans (E4.out.trans E6)⟩
    · have hA : smL l1 s true = [] := if_neg hc
      have hB : smL l1 s false = [] := if_neg hc
      rw [hA, hB]
      have hcb : (cpC l1 s != 0) = true := by simpa using hc
      obtain ⟨C, hC⟩ : ∃ C, C = cpC l1 s := ⟨_, rfl⟩
      rw [← hC] at hcb hc ⊢
      replace hC := hid hC
      clear hA hB sa sb hla hlb
      go_wp2_with fail
      go_ret
      exact ⟨rfl, E1.out⟩
end Go.Proofs.Ytaigndaabmelhaa
