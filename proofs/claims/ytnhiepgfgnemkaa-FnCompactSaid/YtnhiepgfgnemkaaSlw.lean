/- The law FnSlack returns true at every code. Condition: none but what a slice's length can be. -/
import Derived.Test.YtnhiepgfgnemkaaPl3
import Derived.Test.YtnhiepgfgnemkaaDr3
import Derived.Test.YtnhiepgfgnemkaaSl2
import Derived.Test.YtnhiepgfgnemkaaOpu
namespace Go.Proofs.Ytnhiepgfgnemkaa
open Go.RowKit

theorem big_any (q : Option Addr) (n c : Nat) (w : World) (hn : n ≤ 9223372036854775807) : Calls Try.prog 38 #[.slice q n c] w fun e w' => e = .returned (.bool (decide (4096 < (n : Int)))) ∧ w = w' := by
  have hn := hn
  go_enter Try.func38, Try.ntmps38
  go_wp2_with fail
  go_ret
  exact ⟨rfl, rfl⟩
/-- What DrawConstraints leaves. -/
def DrawnC (w : World) (e : Ending) (w' : World) : Prop := ∃ (p : Option Addr) (d : Nat) (bl : List Q4) (g : Int), e = .returned (.tuple #[.slice p bl.length d, .int .i64 g]) ∧ bl.length ≤ 14 ∧ (∀ b ∈ bl, Smal b) ∧ -1 ≤ g ∧ g ≤ 9 ∧ SlT enc4 4 w' p bl.length bl ∧ Ext w w'
theorem drawSlackOf_any (q : Option Addr) (n c : Nat) (l : List Int) (w : World) (h : SlT encU 1 w q n l) (hu : ∀ x ∈ l, 0 ≤ x ∧ x ≤ 255) (hn : n ≤ 1048576) :
    Calls Try.prog 40 #[.slice q n c] w (DrawnC w) := by
  go_enter Try.func40, Try.ntmps40
  go_wp2_with fail
  refine (drawConstraints_any q n c l _ h hu hn).mono ?_
  rintro e w1 ⟨p, d, bl, g, rfl, h1⟩
  go_wp2_with fail
  go_ret2
  exact ⟨p, d, bl, g, rfl, h1⟩
theorem Compact_ok (q : Option Addr) (n c : Nat) (l : List Q4) (g : Int) (w : World) (h : SlT enc4 4 w q n l) (hl : isBL l = true) (hg : wit g 0 8 = true) :
    Calls Try.prog 23 #[.slice q n c, .int .i64 g] w fun e w' => ∃ p d, e = .returned (.tuple #[.slice p n d, .int .i64 0]) ∧ w'.ownsRow w.heap.size 2 1 (.slice p n d) n (ints (tab n (posF l g))) ∧ Ext w w' := by
  have hc := codeB_ok hl hg
  have hn : n ≤ 12 := by have := (isBL_parts hl).1; rw [h.length] at this; exact this
  refine (Compact_any q n c l g w h (by omega)).mono ?_
  rintro e w' ⟨p, d, rfl, ho, hE⟩
  have hR : posR l g = tab n (posF l g) := by rw [posR, if_pos hc, h.length]
  rw [hR, tab_len, flat1] at ho
  refine ⟨p, d, ?_, ho, hE⟩
  rw [hR, tab_len, hc]
theorem Compact_bad (q : Option Addr) (n c : Nat) (l : List Q4) (g : Int) (w : World) (h : SlT enc4 4 w q n l) (hn : n ≤ 1048576) (hk : codeB l g ≠ 0) :
    Calls Try.prog 23 #[.slice q n c, .int .i64 g] w fun e w' => ∃ p d, e = .returned (.tuple #[.slice p 0 d, .int .i64 (codeB l g)]) ∧ Ext w w' := by
  refine (Compact_any q n c l g w h hn).mono ?_
  rintro e w' ⟨p, d, rfl, ho, hE⟩
  have hR : posR l g = [] := by rw [posR, if_neg hk]
  refine ⟨p, d, ?_, hE⟩
  rw [hR]; rfl
set_option maxRecDepth 100000 in
set_option maxHeartbeats 8000000 in
theorem fnSlack_any (q : Option Addr) (n c : Nat) (l : List Int) (w : World) (h : SlT encU 1 w q n l) (hu : ∀ x ∈ l, 0 ≤ x ∧ x ≤ 255) (hm : n ≤ maxLen) :
    Calls Try.prog 10 #[.slice q n c] w fun e w' => e = .returned (.bool true) ∧ Ext w w' := by
  obtain ⟨i0, hi, hz0, hz1, hz2⟩ := info_parts info_Int64
  unfold maxLen at hm
  have hbig := big_any q n c w hm
  go_enter Try.func10, Try.ntmps10
  by_cases hn : 4096 < (n : Int)
  · rw [decide_eq_true hn] at hbig
    go_wp2_with fail
    refine hbig.mono ?_
    rintro e w' ⟨rfl, rfl⟩
    go_wp2_with fail
    go_ret
    exact ⟨rfl, Ext.refl _⟩
  · rw [decide_eq_false hn] at hbig
    go_wp2_with fail
    refine hbig.mono ?_
    clear hbig
    rintro e w' ⟨rfl, rfl⟩
    go_wp2_with fail
    refine (drawSlackOf_any q n c l _ h hu (by omega)).mono ?_
    rintro e w1 ⟨p, d, bl, g, rfl, hbl, hsm, hg0, hg1, hs1, E1⟩
    obtain ⟨N, hN⟩ : ∃ N, N = bl.length := ⟨_, rfl⟩
    rw [← hN] at hbl hs1 ⊢
    have hNI : (N : Int) ≤ 14 := by omega
    replace hN := hid hN
    replace hsm := hid hsm
    replace hu := hid hu
    by_cases hok : isBL bl = true ∧ wit g 0 8 = true
    · obtain ⟨hl, hg⟩ := hok
      have hlc := hid (late_comp hl hg)
      have hlw := hid (late_widR hl hg)
      rw [← hN.out] at hlc hlw
      replace hl := hid hl
      replace hg := hid hg
      go_wp2_with fail
      refine (SlackOf_ok p N d bl g _ hs1 hl.out hg.out).mono ?_
      rintro e w2 ⟨qs, cs, rfl, os, E2⟩
      have sS := tab_SlT os
      clear os
      go_wp2_with fail
      refine (Compact_ok p N d bl g _ (hs1.ext E2) hl.out hg.out).mono ?_
      rintro e w3 ⟨qx, cx, rfl, ox, E3⟩
      have sX := hid (tab_SlT ox)
      replace sS := hid (sS.ext E3)
      have hs3 := hid (hs1.ext (E2.trans E3))
      have E03 := hid (E1.trans (E2.trans E3))
      clear ox E1 E2 E3 hs1
      go_wp2_with fail
      have ho0 : (w3.alloc (.cells #[] 2)).ownsRow w3.heap.size 2 1 (.slice (some ⟨w3.heap.size, 0, none⟩) 0 0) 0 [] := by
        have := World.ownsRow_made (base := w3.heap.size) (e := 2) (size := 1) w3 #[] 0 (by simp) (by simp [maxLen]) (by simp)
        exact this
      go_loopw [9, 10] (fun v i wr => ∃ k : Nat, k ≤ N ∧ i = .int .i64 k ∧ Ext w3 wr ∧ wr.ownsRow w3.heap.size 2 1 v k (ints (tab k (lateF bl g)))) (fun _ i _ => N - (intOf i).toNat)
      case atStart => exact ⟨0, by omega, rfl, (Ext.refl _).alloc _, ho0⟩
      case round =>
        clear ho0
        obtain ⟨k, hk, rfl, hX, ho⟩ := hrel
        by_cases hkN : k < N
        · have hkI : (k : Int) < N := by omega
          obtain ⟨bs, os, rfl, hbs8, s0⟩ := sS.out.tab hkN
          obtain ⟨bx, ox, rfl, hbx8, x0⟩ := sX.out.tab hkN
          replace s0 := (hX.cells _ _ hbs8).trans s0
          replace x0 := (hX.cells _ _ hbx8).trans x0
          obtain ⟨P, hP⟩ : ∃ P, P = posF bl g k := ⟨_, rfl⟩
          obtain ⟨Sk, hSk⟩ : ∃ P, P = slackF bl g k := ⟨_, rfl⟩
          have hPb := posF_btw hl.out hg.out k
          have hSb := slack_nonneg hl.out hg.out (i := k) (by rw [← hN.out]; exact hkN)
          have hSb2 : slackF bl g k ≤ 2000 := by
            have h1 := lat_lower (l := bl) (g := g) (i := k) (by rw [← hN.out]; exact hkN)
            have h2 := widF_le hl.out hg.out
            have h3 := bA_btw hl.out k
            rw [slackF]; omega
          rw [← hP] at x0 hPb
          rw [← hSk] at s0 hSb hSb2
          obtain ⟨hP0, hP1⟩ := hPb
          have hsn : Hid (ints (tab (k + 1) (lateF bl g)) = ints (tab k (lateF bl g)) ++ [.int .i64 (P + Sk)]) := by
            have e : lateF bl g k = P + Sk := by rw [lateF, hP, hSk]
            show _ = _; rw [tab_snoc, ints, List.map_append, e]; rfl
          replace hP := hid hP
          replace hSk := hid hSk
          have hbs : bs < wr.heap.size := by have := hX.le; omega
          have hbx : bx < wr.heap.size := by have := hX.le; omega
          have hbase : w3.heap.size ≤ (wr.alloc (.cells #[.int .i64 (P + Sk)] 2)).heap.size := (hX.alloc _).le
          have A0 := ((Ext.refl wr).alloc (.cells #[.int .i64 (P + Sk)] 2)).drew
          have q0 := (A0.cells _ _ hbx).trans x0
          have q1 := (A0.cells _ _ hbs).trans s0
          have nb1 := hid (Nat.lt_of_lt_of_le hbx A0.le)
          have nb2 := hid (Nat.lt_of_lt_of_le hbs A0.le)
          have ne1 := hid (show ∀ b, b < w3.heap.size → Value.ownBlock u9 ≠ some b from fun b hb hh => by have := (ho.lt b hh).1; omega)
          have hwr1 : IntKind.i64.wrap (P + Sk) = P + Sk := IntWalk.i64_in _ (by omega)
          clear A0
          go_wp2_with fail
          go_region_held3 (fun w' => w'.cell? ⟨bx, ox + k, none⟩ = some (.int .i64 P) ∧ w'.cell? ⟨bs, os + k, none⟩ = some (.int .i64 Sk)) (first | exact ⟨x0, s0⟩ | exact ⟨q0, q1⟩ | exact ⟨(grown_cell hgA nb1.out (ne1.out _ hbx8) _).trans q0, (grown_cell hgA nb2.out (ne1.out _ hbs8) _).trans q1⟩) ((refine step_append_lies _ rfl _ _ 23 rfl w3.heap.size 2 i0 _ 1 8 Try.underlying23 hi hz0 hz1 hz2 rfl (by omega) _ _ _ rfl (ho.alloc _).drew ⟨wr.heap.size, 0, none⟩ 1 1 [.int .i64 (P + Sk)] rfl rfl (cells_new1d _ _ _) (one_int1 _) (by omega) (len_le (by omega) (by omega)) (by omega) hbase _ rfl ?_; intro gL cL wA hoA hgA hbA hlA))
          go_wp2_with fail
          go_roundw
          case rel =>
            refine ⟨k + 1, by omega, by go_num, (hX.alloc (.cells #[.int .i64 (P + Sk)] 2)).drew.grown hgA (fun b hb => (ho.lt b hb).1), ?_⟩
            rw [hsn.out]; exact hoA
          case measure => simp [intOf]; omega
        · have hkk : k = N := by omega
          subst hkk
          obtain ⟨qv, cv, rfl⟩ := owns_forms ho
          have sL := hid (tab_SlT ho)
          have hic := fun W (hE : Ext wr W) => IsCompatible_any p qv k k d cv bl (tab k (lateF bl g)) g W ((hs3.out.ext hX).ext hE) (sL.out.ext hE) (by omega) (by omega)
          rw [hlc.out] at hic
          have hw1 := fun W (hE : Ext wr W) => WidthOf_any p qv k k d cv bl (tab k (lateF bl g)) W ((hs3.out.ext hX).ext hE) (sL.out.ext hE) (by omega) (by omega)
          have hw2 := fun W (hE : Ext wr W) => WidthOf_any p qx k k d cx bl (tab k (posF bl g)) W ((hs3.out.ext hX).ext hE) ((sX.out.ext hX).ext hE) (by omega) (by omega)
          rw [hlw.out] at hw1
          replace hic := hid hic
          replace hw1 := hid hw1
          replace hw2 := hid hw2
          clear ho
          go_wp2_with fail
          refine (hic.out _ (Ext.refl _)).mono ?_
          rintro e w4 ⟨rfl, E4⟩
          go_wp2_with fail
          refine (hw1.out _ E4).mono ?_
          rintro e w5 ⟨rfl, E5⟩
          go_wp2_with fail
          refine (hw2.out _ (E4.trans E5)).mono ?_
          rintro e w6 ⟨rfl, E6⟩
          go_wp2_with fail
          go_ret
          exact ⟨ret_bool (by simp), E03.out.trans (hX.trans (E4.trans (E5.trans E6)))⟩
    · have hk := codeB_bad hok
      have hc1 := SlackOf_bad p N d bl g w1 hs1 (by omega) hok
      have hc2 := fun W (hE : Ext w1 W) => Compact_bad p N d bl g W (hs1.ext hE) (by omega) hk
      obtain ⟨K, hK⟩ : ∃ K, K = codeB bl g := ⟨_, rfl⟩
      rw [← hK] at hc1 hc2 hk
      replace hK := hid hK
      have hd : (K != 0) = true := by simpa using hk
      replace hc2 := hid hc2
      go_wp2_with fail
      refine hc1.mono ?_
      clear hc1
      rintro e w2 ⟨rfl, E2⟩
      go_wp2_with fail
      refine (hc2.out _ E2).mono ?_
      rintro e w3 ⟨p', d', rfl, E3⟩
      go_wp2_with fail
      go_ret
      exact ⟨ret_bool (by simp), E1.trans (E2.trans E3)⟩
end Go.Proofs.Ytnhiepgfgnemkaa
