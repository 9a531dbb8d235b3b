/- The law FnFill. No condition but that the code's length fits. -/
import Derived.Test.YtaigndaabmelhaaDfs
import Derived.Test.YtaigndaabmelhaaFlq
import Derived.Test.YtaigndaabmelhaaCmb
namespace Go.Proofs.Ytaigndaabmelhaa
open Go.RowKit

set_option maxHeartbeats 400000 in
theorem big_any (q : Option Addr) (n c : Nat) (w : World) :
    Calls Try.prog 24 #[.slice q n c] w fun e w' => e = .returned (.bool (decide (4096 < (n : Int)))) ∧ w = w' := by
  by_cases h : 4096 < (n : Int)
  · go_enter Try.func24, Try.ntmps24
    go_wp2
    go_ret
    exact ⟨ret_bool (by simp [h]), rfl⟩
  · go_enter Try.func24, Try.ntmps24
    go_wp2
    go_ret
    exact ⟨ret_bool (by simp [h]), rfl⟩
set_option maxRecDepth 100000 in
set_option maxHeartbeats 16000000 in
theorem fnFill_any (q : Option Addr) (n c : Nat) (l : List Int) (w : World) (h : SlT encU 1 w q n l) (hu : ∀ x ∈ l, 0 ≤ x ∧ x ≤ 255) (_hm : n ≤ maxLen) :
    Calls Try.prog 14 #[.slice q n c] w fun e w' => e = .returned (.bool true) ∧ Ext w w' := by
  have hu := hid hu
  clear _hm
  by_cases hbig : 4096 < (n : Int)
  · have hbd : Hid (decide (4096 < (n : Int)) = true) := decide_eq_true hbig
    go_enter Try.func14, Try.ntmps14
    go_wp2_with fail
    refine (big_any q n c _).mono ?_
    rw [hbd.out]
    rintro e w' ⟨rfl, rfl⟩
    go_wp2_with fail
    go_ret
    exact ⟨rfl, Ext.refl _⟩
  · have hn : n ≤ 1048576 := by omega
    have hbd : Hid (decide (4096 < (n : Int)) = false) := decide_eq_false hbig
    go_enter Try.func14, Try.ntmps14
    go_wp2_with fail
    refine (big_any q n c _).mono ?_
    rw [hbd.out]
    rintro e w' ⟨rfl, rfl⟩
    clear hbig
    go_wp2_with fail
    refine (drawFillSquares_any q n c l _ h hu.out hn).mono ?_
    rintro e w1 ⟨q1, n1, c1, l1, s, p, sz, gap, rfl, s1, hn1, E1⟩
    replace s1 := hid s1
    go_wp2_with fail
    refine (FillSquares_any q1 n1 c1 l1 s p sz gap _ s1.out (by omega)).mono ?_
    rintro e w2 ⟨qf, cf, rfl, o2, E2⟩
    have sf := hid (SlT.of_owns (l := fsL l1 s p sz gap) enc4_len rfl o2)
    have hfl := fsL_len l1 s p sz gap
    have E := hid (E1.trans E2)
    replace s1 := hid (s1.out.ext E2)
    clear o2 E1 E2
    by_cases hc : fsC l1 s p sz gap = 0
    · have hz := fsC_zero hc
      have hr := fsL_reg hc
      have hfar := hid (fs_far hc)
      have hdn := hid (fs_dense (l := l1) hc)
      obtain ⟨hr1, _, _, _, hg⟩ := hz
      have hg : Hid (wit gap 0 10 = true) := hid (by rw [wit_iff] at hg ⊢; omega)
      have hgl := canon_len (gL ((fsL l1 s p sz gap).map (grwQ gap)))
      have hun := hid (un_nil hr1)
      rw [hc]
      obtain ⟨F, hF⟩ : ∃ F, F = fsL l1 s p sz gap := ⟨_, rfl⟩
      rw [← hF] at sf hfl hr hfar hdn hgl ⊢
      replace hF := hid hF
      have hr := hid hr
      have hr1 := hid hr1
      clear hc
      cases hd : isDense l1 s p with
      | true =>
        have hF0 := hdn.out hd
        subst hF0
        have hfar := hfar
        go_wp2_with fail
        refine (IsDense_any q1 n1 c1 l1 s p _ s1.out (by omega)).mono ?_
        rw [hd]
        rintro e w3 ⟨rfl, E3⟩
        clear hd hdn
        go_wp2_with fail
        refine (Grow_any qf _ cf _ gap _ (sf.out.ext E3) (by simp) hr.out hg.out).mono ?_
        rintro e w4 ⟨q4, c4, rfl, o4, E4⟩
        have sg := hid (SlT.of_owns (l := groL [] gap) enc4_len rfl o4)
        have hgr : Hid (isReg (groL [] gap) = true) := isReg_canon _
        clear o4
        go_wp2_with fail
        refine (Intersection_any q4 q1 _ n1 c4 c1 _ l1 _ sg.out (s1.out.ext (E3.trans E4)) (by unfold groL; omega) (by omega) hgr.out hr1.out).mono ?_
        rw [hfar.out]
        rintro e w5 ⟨q5, c5, rfl, _, E5⟩
        go_wp2_with fail
        go_ret
        exact ⟨rfl, E.out.trans (E3.trans (E4.trans E5))⟩
      | false =>
        go_wp2_with fail
        refine (IsDense_any q1 n1 c1 l1 s p _ s1.out (by omega)).mono ?_
        rw [hd]
        rintro e w3 ⟨rfl, E3⟩
        replace hd := hid hd
        clear hdn
        go_wp2_with fail
        refine (Grow_any qf _ cf _ gap _ (sf.out.ext E3) (by omega) hr.out hg.out).mono ?_
        rintro e w4 ⟨q4, c4, rfl, o4, E4⟩
        have sg := hid (SlT.of_owns (l := groL F gap) enc4_len rfl o4)
        have hgr : Hid (isReg (groL F gap) = true) := isReg_canon _
        clear o4
        go_wp2_with fail
        refine (Intersection_any q4 q1 _ n1 c4 c1 _ l1 _ sg.out (s1.out.ext (E3.trans E4)) (by unfold groL; omega) (by omega) hgr.out hr1.out).mono ?_
        rw [hfar.out]
        rintro e w5 ⟨q5, c5, rfl, _, E5⟩
        have E5 := hid (E3.trans (E4.trans E5))
        clear E3 E4 hgl
        by_cases hlen : F.length = 0
        · obtain rfl := List.eq_nil_of_length_eq_zero hlen
          have hlen : Hid True := hid trivial
          go_wp2_with fail
          refine (Union_any q1 qf n1 _ c1 cf l1 [] _ (s1.out.ext E5.out) (sf.out.ext E5.out) (by omega) (by simp) hr1.out hr.out).mono ?_
          rw [hun.out]
          rintro e w6 ⟨q6, c6, rfl, o6, E6⟩
          have s6 := hid (SlT.of_owns (l := l1) enc4_len rfl o6)
          have hll := (isReg_parts hr1.out).1
          clear o6
          go_wp2_with fail
          refine (IsDense_any q6 _ c6 l1 s p _ s6.out (by omega)).mono ?_
          rw [hd.out]
          rintro e w7 ⟨rfl, E7⟩
          go_wp2_with fail
          refine (IsRegion_any q1 n1 c1 l1 _ (s1.out.ext (E5.out.trans (E6.trans E7))) (by omega)).mono ?_
          rw [hr1.out]
          rintro e w8 ⟨rfl, E8⟩
          go_wp2_with fail
          go_ret
          exact ⟨rfl, E.out.trans (E5.out.trans (E6.trans (E7.trans E8)))⟩
        · have hpos : (0 : Int) < (F.length : Int) := by omega
          clear hlen
          go_wp2_with fail
          · exfalso; have hp2 := hpos; simp_all
          · go_ret
            exact ⟨rfl, E.out.trans E5.out⟩
    · have hnil := fsL_bad hc
      rw [hnil]
      have hcb : (fsC l1 s p sz gap != 0) = true := by simpa using hc
      generalize fsC l1 s p sz gap = C at hc hcb
      clear hnil sf hfl
      go_wp2_with fail
      go_ret
      exact ⟨rfl, E.out⟩
end Go.Proofs.Ytaigndaabmelhaa
