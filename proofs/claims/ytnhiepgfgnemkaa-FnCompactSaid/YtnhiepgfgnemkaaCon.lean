/- Contract of constraints (program): the constraints by From, then by To. Condition: valid blocks and gap. -/
import Derived.Test.YtnhiepgfgnemkaaSo3
namespace Go.Proofs.Ytnhiepgfgnemkaa
open Go.RowKit

theorem rawO_len (l : List Q4) (g : Int) : ∀ o : List Int, (rawO l g o).length ≤ o.length * o.length
  | [] => by simp [rawO]
  | i :: r => by
    have h1 := flatMap_le (one l g i) 1 (one_len l g i) r
    have h2 := rawO_len l g r
    rw [rawO, List.length_append, List.length_cons]
    have : r.length * r.length + r.length ≤ (r.length + 1) * (r.length + 1) := by rw [Nat.add_one_mul, Nat.mul_add_one]; omega
    omega

set_option maxRecDepth 100000 in
set_option maxHeartbeats 2000000 in
theorem constraints_any (q : Option Addr) (n c : Nat) (l : List Q4) (g : Int) (w : World) (h : SlT enc4 4 w q n l) (hl : isBL l = true) (hg : wit g 0 8 = true) :
    Calls Try.prog 61 #[.slice q n c, .int .i64 g] w fun e w' => ∃ q c, e = .returned (.slice q (csL l g).length c) ∧ Own enc3 3 71 w' w.heap.size (.slice q (csL l g).length c) (csL l g) ∧ Ext w w' := by
  obtain ⟨i0, hi, hz0, hz1, hz2⟩ := info_parts info_Constraint
  have l1 := hid h.length
  have hn : n ≤ 12 := by have := (isBL_parts hl).1; rw [h.length] at this; exact this
  have hv := hid (isBL_parts hl).2
  have hg' := wit_iff.1 hg
  obtain ⟨hg1, hg2⟩ := hg'
  replace hg := hid hg
  clear hl
  have hol := ltr_len l
  rw [l1.out] at hol
  have hom : Hid (∀ x ∈ ltr l, ∃ i : Nat, x = i ∧ i < n) := fun x hx => by
    have := (ltr_is l).perm.mem_iff.1 hx
    rw [l1.out] at this; exact upto_mem this
  have hcl : (rawO l g (ltr l)).length ≤ 144 := by have := rawO_len l g (ltr l); rw [hol] at this; have := Nat.mul_le_mul hn hn; omega
  have ho0 : (w.alloc (.cells #[] 71)).ownsRow w.heap.size 71 3 (.slice (some ⟨w.heap.size, 0, none⟩) 0 0) 0 [] := by
    have := World.ownsRow_made (base := w.heap.size) (e := 71) (size := 3) w #[] 0 (by simp) (by simp [maxLen]) (by simp)
    exact this
  go_enter Try.func61, Try.ntmps61
  go_wp2_with (go_at_call 68; refine (leftToRight_any q n c l _ (h.ext ((Ext.refl _).alloc _)) hn).mono ?_; rintro e w1 ⟨q1, c1, rfl, ho1, hE1⟩)
  have E1 := hid (((Ext.refl w).alloc (.cells #[] 71)).trans hE1)
  have ho2 := owns_ext ho0 hE1
  have hsz := hE1.le
  simp only [World.size_alloc] at hsz ho1
  have hoS : SlT enc1 1 w1 q1 n (ltr l) := by
    rw [ints, ← flat1] at ho1
    exact SlT.of_owns enc1_len hol ho1
  have hq1 : Hid (∀ a, q1 = some a → a.block ∉ [w.heap.size]) := fun a ha => by
    subst ha
    have := (ho1.lt a.block rfl).1
    simp; omega
  have hoC := hid ho1
  clear ho0 ho1 hE1
  obtain ⟨RAW, hRAW⟩ : ∃ RAW, RAW = rawO l g (ltr l) := ⟨_, rfl⟩
  rw [← hRAW] at hcl
  replace hRAW := hid hRAW
  go_loopw [5, 7, 8, 10, 16] (fun v _ _ _ i wr => ∃ (j : Nat) (out : List Q3), j ≤ n ∧ i = .int .i64 j ∧ Mut w1 wr [w.heap.size] ∧ Fresh w1 w.heap.size v ∧ v ≠ .slice none 0 0 ∧ wr.ownsRow w.heap.size 71 3 v out.length (out.flatMap enc3) ∧ Hid (RAW = out ++ rawO l g ((ltr l).drop j))) (fun _ _ _ _ i _ => n - (intOf i).toNat)
  case atStart => exact ⟨0, [], by omega, rfl, Mut.refl _ _, fun k hk => Or.inl (by simpa using (Option.some.inj hk).symm), by simp, ho2, by show _ = _; rw [hRAW.out]; simp⟩
  case round =>
    clear ho2
    obtain ⟨j, out, hj, rfl, hM, hvb, hnn, ho, hI⟩ := hrel
    by_cases hlt : j < n
    · obtain ⟨b, off, x, hq, hb, hx, x0⟩ := (hoS.mut hM hq1.out).int hlt
      obtain ⟨i, hxi, hiN⟩ := hom.out x (List.mem_of_getElem? hx.out)
      subst hxi
      subst hq
      obtain ⟨R, hR⟩ : ∃ R, R = rawO l g ((ltr l).drop (j + 1)) := ⟨_, rfl⟩
      have hI2 : Hid (RAW = out ++ ((ltr l).drop (j + 1 + 0)).flatMap (one l g i) ++ R) := by
        show _ = _
        obtain ⟨hjl, hjx⟩ := List.getElem?_eq_some_iff.1 hx.out
        rw [hI.out, List.drop_eq_getElem_cons hjl, hjx, rawO, hR]; simp
      clear hI
      replace hR := hid hR
      have hjI : (j : Int) < n := by omega
      have hcap := owns_cap hoC.out
      obtain ⟨m, hm⟩ : ∃ m, m + (j + 1) = n := ⟨n - (j + 1), by omega⟩
      obtain ⟨D, hD⟩ : ∃ D, D = (ltr l).drop (j + 1) := ⟨_, rfl⟩
      have hDm : Hid (∀ y ∈ D, ∃ k : Nat, y = k ∧ k < n) := fun y hy => hom.out y (by rw [hD] at hy; exact List.mem_of_mem_drop hy)
      have hI3 : Hid (RAW = out ++ (D.drop 0).flatMap (one l g i) ++ R) := by show _ = _; rw [hI2.out, hD]; simp
      clear hI2
      go_wp2_with (refine wpList_slice_from (o := ⟨some 24, _, _, _, _, _⟩) _ rfl _ _ 80 rfl 3 Try.underlying80 1 (by kernel_rfl) b off n c1 rfl ((j : Int) + 1) rfl (j + 1) rfl m hm hcap ?_; intro off' c' hc' hdrop)
      have hDs := hid (fun W => hdrop enc1 (ltr l) W)
      rw [← hD] at hDs
      replace hD := hid hD
      clear hdrop
      go_loopw [5, 10, 26] (fun v _ ii wr => ∃ (t : Nat) (out : List Q3), t ≤ m ∧ ii = .int .i64 t ∧ Mut w1 wr [w.heap.size] ∧ Fresh w1 w.heap.size v ∧ v ≠ .slice none 0 0 ∧ wr.ownsRow w.heap.size 71 3 v out.length (out.flatMap enc3) ∧ Hid (RAW = out ++ (D.drop t).flatMap (one l g i) ++ R)) (fun _ _ ii _ => m - (intOf ii).toNat)
      case atStart => exact ⟨0, out, by omega, rfl, hM, hvb, hnn, ho, hI3⟩
      case round =>
        clear hM hvb hnn ho hI3
        obtain ⟨t, out, ht, rfl, hM, hvb, hnn, ho, hI⟩ := hrel
        by_cases htm : t < m
        · obtain ⟨b', off2, y, e, hb', hy, d0⟩ := (hDs.out wr (hoS.mut hM hq1.out)).int htm
          cases e
          obtain ⟨k, hyk, hkn⟩ := hDm.out y (List.mem_of_getElem? hy.out)
          subst hyk
          have hE := E1.out.then hM (by intro k hk; simp at hk; omega)
          have hs := h.ext hE
          obtain ⟨bb, oo, xi, rfl, hbl, hxi, x0, x1, x2, x3⟩ := hs.four hiN
          obtain ⟨bb', oo', yk, e, hbl', hyk, y0', y1, y2, y3⟩ := hs.four hkn
          cases e
          have hiI : (i : Int) < n := by omega
          have hkI : (k : Int) < n := by omega
          have htI : (t : Int) < m := by omega
          have hcel : Hid (RAW = out ++ one l g i k ++ (D.drop (t + 1)).flatMap (one l g i) ++ R) := by
            obtain ⟨hyl, hyx⟩ := List.getElem?_eq_some_iff.1 hy.out
            show _ = _; rw [hI.out, List.drop_eq_getElem_cons hyl, hyx, List.flatMap_cons]; simp
          clear hI
          have hvx := hid (hv.out xi (List.mem_of_getElem? hxi.out))
          have hvy := hid (hv.out yk (List.mem_of_getElem? hyk.out))
          have hone : Hid (one l g i k = if intr xi yk g then [⟨i, k, xi.c + g⟩] else []) := by
            show _ = _; rw [one, bA_at hxi.out, bA_at hyk.out]
          have xb := vblk_iff.1 hvx.out
          obtain ⟨-, -, ⟨xb1, xb2⟩, -⟩ := xb
          have hI1 : ∀ p : Later wr, Calls Try.prog 101 #[.agg #[.int .i64 xi.a, .int .i64 xi.b, .int .i64 xi.c, .int .i64 xi.d], .agg #[.int .i64 yk.a, .int .i64 yk.b, .int .i64 yk.c, .int .i64 yk.d], .int .i64 g] p.val fun e w' => e = .returned (.bool (intr xi yk g)) ∧ Ext p.val w' := fun p => interact_any xi yk g p.val hvx.out hvy.out hg.out
          cases hin2 : intr xi yk g with
          | false =>
            rw [hin2] at hI1
            have hnx : Hid (RAW = out ++ (D.drop (t + 1)).flatMap (one l g i) ++ R) := by
              show _ = _; rw [hcel.out, (show one l g i k = [] by rw [hone.out, hin2]; rfl)]; simp
            clear hin2 hs
            go_wp2_with fail
            refine wp_region_later (by kernel_rfl) (by kernel_rfl) ?_
            repeat (go_big_quiet_step ((go_at_call 101; exact later_of (hI1 _))))
            refine wpQuiet_nil ?_
            rintro w7 ⟨⟨_, h7⟩, rfl⟩
            go_wp2
            go_roundw
            case rel => exact ⟨t + 1, out, by omega, by go_num, hM.ext h7, hvb, hnn, owns_ext ho h7, hnx⟩
            case measure => simp [intOf]; omega
          | true =>
            rw [hin2] at hI1
            have hnx : Hid (RAW = out ++ [⟨i, k, xi.c + g⟩] ++ (D.drop (t + 1)).flatMap (one l g i) ++ R) := by
              show _ = _; rw [hcel.out, hone.out, hin2]; simp
            have hol' : out.length ≤ 144 := by have := congrArg List.length hnx.out; simp at this; omega
            clear hin2 hs
            go_wp2_with fail
            refine wp_region_later (by kernel_rfl) (by kernel_rfl) ?_
            repeat (go_big_quiet_step ((go_at_call 101; exact later_of (hI1 _))))
            refine wpQuiet_nil ?_
            rintro w7 ⟨⟨_, h7⟩, rfl⟩
            have ho7 := owns_ext ho h7
            have M7 := hM.ext h7
            have c0 := h7.cells _ (oo + i * 4 + 2) hbl
            rw [x2] at c0
            go_wp2_with (at_builtin; refine wpList_append_own_at _ rfl _ _ 37 rfl w.heap.size 71 i0 _ 3 24 Try.underlying37 hi hz0 hz1 hz2 rfl (by omega) _ _ _ rfl (ho7.alloc _) ⟨w7.heap.size, 0, none⟩ 1 1 [.int .i64 (i : Int), .int .i64 (k : Int), .int .i64 (xi.c + g)] rfl rfl ?c1 ?c2 ?c3 ?c4 ?c5 ?_; rotate_left 5; intro v' w2 ho' hgb hnil hob)
            case c1 => exact cells_new _ _ _
            case c2 => intro u hu; simp at hu; rcases hu with rfl | rfl | rfl <;> rfl
            case c3 => unfold maxLen; omega
            case c4 => omega
            case c5 => have := hE.le; have := h7.le; simp; omega
            go_roundw
            case rel =>
              refine ⟨t + 1, out ++ [⟨i, k, xi.c + g⟩], by omega, by go_num, (M7.alloc _).append hvb hgb, hvb.append (M7.alloc _) hob, fun hh => ?_, ?_, hnx⟩
              · exact hnn (hnil.1 hh).1
              · rw [List.length_append, List.flatMap_append]; exact ho'
            case measure => simp [intOf]; omega
        · have htt : t = m := by omega
          have hDl : Hid (D.length = m) := by show _ = _; rw [hD.out, List.length_drop, hol]; omega
          have hI2 : Hid (RAW = out ++ rawO l g ((ltr l).drop (j + 1))) := by
            show _ = _; rw [hI.out, htt, ← hR.out, List.drop_eq_nil_of_le (by rw [hDl.out]; exact Nat.le_refl _)]; simp
          go_wp2
          refine ⟨⟨j + 1, out, by omega, by go_num, hM, hvb, hnn, ho, hI2⟩, ?_⟩
          simp [intOf]; omega
    · have hjj : j = n := by omega
      have hfin : Hid (RAW = out) := by show _ = _; rw [hI.out, hjj, List.drop_eq_nil_of_le (by rw [hol]; exact Nat.le_refl _)]; simp [rawO]
      obtain ⟨gg, cc, rfl⟩ := owns_some2 ho hnn
      have hE := E1.out.then hM (by intro k hk; simp at hk; omega)
      have hgl := owns_lt ho
      have hoL : out.length ≤ 1048576 := by have := congrArg List.length hfin.out; omega
      clear hnn hI
      go_wp2_with (go_at_call 102; refine (sortC_any gg out.length cc _ _ out _ rfl ho hoL).mono ?_; rintro e w2 ⟨rfl, d, hp, hsr, ho2, M2⟩)
      have hd : Hid (d = csL l g) := sorted_cs (ltr_is l) (by rw [← hRAW.out, hfin.out]; exact hp) hsr
      have hdl : Hid (out.length = (csL l g).length) := by show _ = _; rw [← hd.out]; exact hp.length_eq.symm
      clear hp hsr
      rw [hd.out] at ho2
      go_wp2
      go_ret
      rw [hdl.out] at ho2 ⊢
      exact ⟨_, _, rfl, ho2, hE.then M2 (by intro k hk; simp at hk; omega)⟩
end Go.Proofs.Ytnhiepgfgnemkaa
