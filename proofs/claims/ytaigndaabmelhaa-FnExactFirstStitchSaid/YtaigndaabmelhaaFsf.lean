/- Contract of the reference's FirstStitch; the law FnExactFirstStitch. Condition: at most 2^20 rectangles. -/
import Derived.Test.YtaigndaabmelhaaFse
import Derived.Test.YtaigndaabmelhaaFst
namespace Go.Proofs.Ytaigndaabmelhaa
open Go.RowKit

theorem first_nat {P : Nat → Prop} : ∀ n, P n → ∃ n, P n ∧ ∀ j, j < n → ¬ P j := by
  intro n
  induction n using Nat.strongRecOn with
  | ind n ih =>
    intro h
    by_cases he : ∃ j, j < n ∧ P j
    · obtain ⟨j, hj, hp⟩ := he; exact ih j hj hp
    · exact ⟨n, h, fun j hj hp => he ⟨j, hj, hp⟩⟩
theorem stT_lo {L : List (List Q4)} {s : Int} (hv : ∀ l ∈ L, l.length ≤ 3200 ∧ ∀ r ∈ l, vR r = true) (hne : ∀ l ∈ L, l ≠ []) {k : Nat} (hk : k < L.length) {x : Int} (h : stT L s k x = true) : -40 ≤ x ∧ x < 40 := by
  rw [stT, Bool.and_eq_true, Bool.and_eq_true, Bool.and_eq_true, decide_eq_true_eq, decide_eq_true_eq] at h
  obtain ⟨⟨⟨h1, h2⟩, _⟩, _⟩ := h
  have hm : L.getD k [] ∈ L := by rw [getD_of (List.getElem?_eq_getElem hk)]; exact List.getElem_mem _
  have := vR_iff.1 (box_v (hne _ hm) (hv _ hm).2)
  omega
theorem FsR_ex (l : List Q4) (s : Int) : ∃ i x C : Int, FsR l s i x C := by
  by_cases h0 : ptC l s = 0
  · cases hb : cpO l s with
    | true => exact ⟨0, 0, 6, Or.inr (Or.inl ⟨h0, hb, rfl, rfl, rfl⟩)⟩
    | false =>
      suffices h : ∃ i x C, StF (stT (ptL l s) s) (ptL l s).length i x C by
        obtain ⟨i, x, C, h⟩ := h; exact ⟨i, x, C, Or.inr (Or.inr ⟨h0, hb, h⟩)⟩
      have hv := ptL_ok l s
      have hne := ptL_neq l s
      generalize ptL l s = L at *
      by_cases he : ∃ k, k < L.length ∧ ∃ x, stT L s k x = true
      · obtain ⟨k0, hk0⟩ := he
        obtain ⟨k, ⟨hk, x0, hx0⟩, hmin⟩ := first_nat (P := fun k => k < L.length ∧ ∃ x, stT L s k x = true) k0 hk0
        have h1 := stT_lo hv hne hk hx0
        obtain ⟨n, hn, hmin2⟩ := first_nat (P := fun n : Nat => stT L s k (-40 + n) = true) (x0 + 40).toNat (by show stT L s k _ = true; rw [show -40 + ((x0 + 40).toNat : Int) = x0 by omega]; exact hx0)
        refine ⟨k, -40 + n, 0, Or.inl ⟨rfl, k, rfl, hk, hn, fun y hy => ?_, fun j hj y => ?_⟩⟩
        · cases hf : stT L s k y with
          | false => rfl
          | true =>
            have h2 := stT_lo hv hne hk hf
            exact absurd (show stT L s k (-40 + ((y + 40).toNat : Int)) = true by rw [show -40 + ((y + 40).toNat : Int) = y by omega]; exact hf) (hmin2 _ (by omega))
        · cases hf : stT L s j y with
          | false => rfl
          | true => exact absurd ⟨by omega, y, hf⟩ (hmin j hj)
      · refine ⟨0, 0, 5, Or.inr ⟨rfl, rfl, rfl, fun j hj y => ?_⟩⟩
        cases hf : stT L s j y with
        | false => rfl
        | true => exact absurd ⟨j, hj, y, hf⟩ he
  · exact ⟨0, 0, ptC l s, Or.inl ⟨h0, rfl, rfl, rfl⟩⟩
theorem mrT_congr {G : List (List Bool)} {n i : Nat} {u v u' v' : Nat → Bool} (hi : i < n) (hu : ∀ j, j < n → u j = u' j) (hv : ∀ j, j < n → v j = v' j) : mrT G n i u v = mrT G n i u' v' := by
  have e1 : (List.range n).map u = (List.range n).map u' := List.map_congr_left fun j hj => hu j (List.mem_range.1 hj)
  have e2 : (List.range n).map v = (List.range n).map v' := List.map_congr_left fun j hj => hv j (List.mem_range.1 hj)
  rw [mrT, mrT, e1, e2, hv i hi]
  congr 1
  refine List.map_congr_left fun j hj => ?_
  rw [hu j (List.mem_range.1 hj), hv j (List.mem_range.1 hj)]
/-- The unit cells near each part. -/
def nrL (L : List (List Q4)) (s : Int) : List Grid := L.map fun p => growC (gL p) s
def flN (N : List Grid) : List (List Value) := N.map gcells
theorem flN_snoc (N : List Grid) (g : Grid) : flN (N ++ [g]) = flN N ++ [gcells g] := by simp [flN]
theorem stM_eq {L : List (List Q4)} {s : Int} {k : Nat} (hk : k < L.length) (x : Int) : mrT (tabL L s) L.length k (stU (nrL L s) k (dvL (cellsP (L.getD k [])) x)) (stU (nrL L s) k (dvR (cellsP (L.getD k [])) x)) = stM L s k x := by
  have hg : ∀ j, j < L.length → (nrL L s).getD j gnone = growC (gL (L.getD j [])) s := fun j hj => by
    rw [getD_of (x := growC (gL L[j]) s) (by rw [nrL, List.getElem?_map, List.getElem?_eq_getElem hj]; rfl), getD_of (List.getElem?_eq_getElem hj)]
  exact mrT_congr hk (fun j hj => by rw [stU, hg j hj]; rfl) (fun j hj => by rw [stU, hg j hj]; rfl)
theorem NrR.of {tr te : TypeId} {base n c : Nat} {w : World} {q : Option Addr} {H : List Hd} {N : List Grid} (o : OwnG tr te 1 base w q n c H (flN N)) (hH : ∀ h ∈ H, ∃ B, h = (some ⟨B, 0, none⟩, 6400, 6400)) : NrR w q n N := by
  have hl : N.length = n := by have := o.lenV; rw [flN, List.length_map] at this; exact this
  refine ⟨hl, fun k hk => ?_⟩
  have hx : ∃ h, H[k]? = some h := ⟨_, List.getElem?_eq_getElem (by rw [o.len]; exact hk)⟩
  obtain ⟨h, hx⟩ := hx
  obtain ⟨B, rfl⟩ := hH h (List.mem_of_getElem? hx)
  have hN : N[k]? = some N[k] := List.getElem?_eq_getElem (by omega)
  have ho := o.row k _ _ hx (show (flN N)[k]? = some (gcells N[k]) by rw [flN, List.getElem?_map, hN]; rfl)
  have hs := SlT.of_owns (l := H) encH_len o.len o.top
  obtain ⟨b, off, x', e9, hb, hx', z⟩ := hs.get hk
  have hxx : x' = (some ⟨B, 0, none⟩, 6400, 6400) := by have := hx'.out; rw [hx] at this; exact (Option.some.inj this).symm
  subst hxx
  have z0 := z 0 _ rfl
  simp only [hdV, Nat.mul_one, Nat.add_zero] at z0
  refine ⟨b, off, B, 6400, e9, hb, z0, ?_⟩
  rw [getD_of hN]
  exact Bits.of ho
set_option maxRecDepth 100000 in
set_option maxHeartbeats 8000000 in
theorem specFirstStitch_any (q : Option Addr) (n c : Nat) (l : List Q4) (s : Int) (w : World) (h : SlT enc4 4 w q n l) (hn : n ≤ 1048576) :
    Calls Try.prog 51 #[.slice q n c, .int .i64 s] w (FsB l s w) := by
  have hp := hid (l33Parts_any q n c l s w h hn)
  have hpl := ptL_len l s
  by_cases h0 : ptC l s = 0
  · have hrows := hid (tabL_rows2 (ptL l s) s)
    have hok := hid (ptL_ok l s)
    have hne := hid (ptL_neq l s)
    have hs := (ptC_prts h0).2.2.2
    obtain ⟨hs1, hs8⟩ := hs
    obtain ⟨L, hL⟩ : ∃ L, L = ptL l s := ⟨_, rfl⟩
    obtain ⟨T, hT⟩ : ∃ T, T = tabL L s := ⟨_, rfl⟩
    obtain ⟨m, hm⟩ : ∃ m, m = L.length := ⟨_, rfl⟩
    rw [← hL] at hrows hok hne hpl
    rw [← hT, ← hm] at hrows
    rw [← hm] at hpl
    cases hb : cpO l s with
    | true =>
      have hbb : Hid (okC T m = true) := by show _ = _; rw [hT, hm, hL]; exact hb
      have hres : Hid (FsR l s 0 0 6) := Or.inr (Or.inl ⟨h0, hb, rfl, rfl, rfl⟩)
      go_enter Try.func51, Try.ntmps51
      go_wp2_with fail
      refine hp.out.mono ?_
      rintro e w1 ⟨q1, c1, q2, c2, rfl, r1, r2, E1⟩
      rw [h0]
      rw [← hL, ← hm] at r1 r2 ⊢
      rw [← hT] at r2
      replace r2 := hid r2
      replace E1 := hid E1
      replace hT := hid hT
      replace hm := hid hm
      replace hL := hid hL
      replace h0 := hid h0
      replace hb := hid hb
      clear r1
      go_wp2_with fail
      refine (l33Color_any q2 m c2 T _ r2.out (by omega) hrows.out).mono ?_
      rintro e w2 ⟨q5, c5, rfl, o5, E2⟩
      rw [hbb.out]
      have hE := hid (E1.out.trans E2)
      clear E2 o5
      go_wp2_with fail
      refine bodyPost_ret (results_tmp3 rfl _ _ _) rfl ?_
      exact ⟨0, 0, 6, rfl, hres.out, hE.out⟩
    | false =>
      have hbb : Hid (okC T m = false) := by show _ = _; rw [hT, hm, hL]; exact hb
      have hres : Hid (∀ i x C, StF (stT L s) m i x C → FsR l s i x C) := by
        intro i x C hh
        rw [hm, hL] at hh
        exact Or.inr (Or.inr ⟨h0, hb, hh⟩)
      obtain ⟨i0, hi, hz0, hz1, hz2⟩ := info_parts info_BB
      go_enter Try.func51, Try.ntmps51
      go_wp2_with fail
      refine hp.out.mono ?_
      rintro e w1 ⟨q1, c1, q2, c2, rfl, r1, r2, E1⟩
      rw [h0]
      rw [← hL, ← hm] at r1 r2 ⊢
      rw [← hT] at r2
      replace r2 := hid r2
      replace r1 := hid r1
      replace E1 := hid E1
      replace hT := hid hT
      replace hm := hid hm
      replace hL := hid hL
      replace h0 := hid h0
      replace hb := hid hb
      go_wp2_with fail
      refine (l33Color_any q2 m c2 T _ r2.out (by omega) hrows.out).mono ?_
      rintro e w2 ⟨q5, c5, rfl, o5, E2⟩
      rw [hbb.out]
      have hE := hid (E1.out.trans E2)
      replace r1 := hid (r1.out.ext E2)
      replace r2 := hid (r2.out.ext E2)
      clear E2 o5 E1
      go_upto_region 8 with (fail)
      have ho0 : (w2.alloc (.cells #[] 79)).ownsRow w2.heap.size 79 1 (.slice (some ⟨w2.heap.size, 0, none⟩) 0 0) 0 [] := by
        have := World.ownsRow_made (base := w2.heap.size) (e := 79) (size := 1) w2 #[] 0 (by simp) (by simp [maxLen]) (by simp)
        exact this
      generalize hW : w2.alloc _ = W0 at ho0 ⊢
      have E0 : Ext w2 W0 := by rw [← hW]; exact (Ext.refl _).alloc _
      clear hW
      replace ho0 := hid ho0
      replace E0 := hid E0
      go_wp2_with fail
      go_loopw [12, 13] (fun vo iv wr => ∃ (k : Nat) (qo : Option Addr) (co : Nat) (H : List Hd), k ≤ m ∧ iv = .int .i64 k ∧ vo = .slice qo k co ∧ Hid (OwnG 79 4 1 w2.heap.size wr qo k co H (flN (nrL (L.take k) s))) ∧ Hid (∀ h ∈ H, ∃ B, h = (some ⟨B, 0, none⟩, 6400, 6400)) ∧ Hid (Ext w2 wr)) (fun _ i _ => m - (intOf i).toNat)
      case atStart => exact ⟨0, _, _, [], by omega, rfl, rfl, OwnG.start ho0.out, (by intro h hh; cases hh), E0⟩
      case round =>
        clear ho0 E0
        obtain ⟨k, qo, co, H, hk, rfl, rfl, ho, hH, hE2⟩ := hrel
        rename World => wo
        by_cases hlt : k < m
        · have hltI : (k : Int) < (m : Int) := by omega
          obtain ⟨b, off, q3, n3, c3, p, rfl, hbw, hp3, z3, t3⟩ := (r1.out.ext hE2.out).get hlt
          have hpv := hok.out p (List.mem_of_getElem? hp3.out)
          have hn3 : n3 ≤ 3200 := by rw [← t3.length]; exact hpv.1
          have hsn : Hid (flN (nrL (L.take (k + 1)) s) = flN (nrL (L.take k) s) ++ [gcells (growC (gL p) s)]) := by show _ = _; rw [take_snoc hp3.out, nrL, List.map_append]; exact flN_snoc _ _
          have kB := hid (l03Bits_any q3 n3 c3 p _ t3 (by omega) hpv.2)
          clear t3 hpv
          go_wp2_with fail
          refine kB.out.mono ?_
          rintro e w5 ⟨B, rfl, o5, E5⟩
          have b5 := hid (Bits.of o5)
          replace E5 := hid E5
          clear o5 kB z3
          go_wp2_with fail
          refine (l33Grow_any B 6400 (gL p) s _ b5.out (by omega) hs8).mono ?_
          rintro e w6 ⟨M, rfl, o6, E6⟩
          have hO := hid (owns_lowP o6 E5.out.le)
          have hE6 := hid (E5.out.trans E6)
          have hEw := hid (hE2.out.trans hE6.out)
          have htop := hid (owns_ext ho.out.top hE6.out)
          have hsz := hEw.out.le
          clear o6 E6 b5 E5
          go_wp2_with (at_builtin; refine wpList_append_own_at _ rfl _ _ 76 rfl w2.heap.size 79 i0 (.slice none 0 0) 1 24 Try.underlying76 hi hz0 hz1 hz2 rfl (by omega) _ _ _ rfl (htop.out.alloc _) ⟨_, 0, none⟩ 1 1 [.slice (some ⟨M, 0, none⟩) 6400 6400] rfl rfl (cells_new1 _ _ _) (one_hd1 _ _ _) (len_le (by omega) (by omega)) (by omega) (by simp; omega) ?_; intro v' w9 ho' hg' _ hb'; obtain ⟨qy, cy, rfl⟩ := owns_forms ho'; replace ho' := hid ho'; replace hg' := hid hg'; replace hb' := hid hb')
          go_roundw
          case rel =>
            refine ⟨k + 1, qy, cy, _, by omega, by go_num, rfl, by rw [hsn.out]; exact ho.out.more hE2.out.le hO.out hE6.out _ ho'.out hg'.out hb'.out, ?_, (hEw.out.alloc _).grown hg'.out (fun g hg => (htop.out.lt g hg).1)⟩
            intro h hh
            rw [List.mem_append, List.mem_singleton] at hh
            rcases hh with hh | rfl
            · exact hH.out h hh
            · exact ⟨M, rfl⟩
          case measure => simp [intOf]; omega
        · have hltI : ¬ (k : Int) < (m : Int) := by omega
          obtain rfl : k = m := by omega
          rw [take_all hm.out.symm (Nat.le_refl _)] at ho
          have nr := hid (NrR.of ho.out hH.out)
          clear ho hH
          replace hE := hid (hE.out.trans hE2.out)
          replace r1 := hid (r1.out.ext hE2.out)
          replace r2 := hid (r2.out.ext hE2.out)
          clear hE2
          have hGr : Hid (∀ r ∈ T, r.length = k) := hrows.out
          clear hbb
          go_wp2_with fail
          go_loopw [14] (fun iv wr => ∃ j : Nat, j ≤ k ∧ iv = .int .i64 j ∧ Hid (∀ t, t < j → ∀ y, stT L s t y = false) ∧ Hid (Ext wo wr)) (fun i _ => k - (intOf i).toNat)
          case atStart => exact ⟨0, by omega, rfl, fun j hj => by omega, Ext.refl _⟩
          case round =>
            obtain ⟨j, hj, rfl, hno, hE2⟩ := hrel
            by_cases hlj : j < k
            · have hljI : (j : Int) < (k : Int) := by omega
              obtain ⟨b, off, q3, n3, c3, p, rfl, hbw, hp3, z3, t3⟩ := (r1.out.ext hE2.out).get hlj
              have hpm := List.mem_of_getElem? hp3.out
              have hpv := hok.out p hpm
              have hn3 : n3 ≤ 3200 := by rw [← t3.length]; exact hpv.1
              have hLp : Hid (L.getD j [] = p) := getD_of hp3.out
              have hon := hid (cells_on hpv.2)
              have hcb : (cellsP p).length ≤ 20480000 := by have h1 := cellsP_bd p hpv.2; have h2 := hpv.1; omega
              have kC := hid (l33Cells_any q3 n3 c3 p _ t3 hn3 hpv.2)
              have hLk : j < L.length := by have := hm.out; omega
              have hsM := hid (fun x => stM_eq (s := s) hLk x)
              have hsR := hid (fun x => stR_eq (s := s) hok.out (by omega) hLk x)
              have hlo := hid (fun x (hx : stT L s j x = true) => stT_lo hok.out hne.out hLk hx)
              clear t3 hpv
              go_wp2_with fail
              refine kC.out.mono ?_
              rintro e w5 ⟨q6, c6, rfl, o6, E6⟩
              have t6 := hid (SlT.of_owns (l := cellsP p) enc2_len rfl o6)
              have hE6 := hid (hE2.out.trans E6)
              clear o6 E6 kC z3
              have hlow : Hid (∀ y, y < -40 → stT L s j y = false) := by
                intro y hy
                cases hf : stT L s j y with
                | false => rfl
                | true => have := hlo.out y hf; omega
              go_wp2_with fail
              go_loopw [16] (fun xv wr => ∃ x : Int, xv = .int .i64 x ∧ (-40 ≤ x ∧ x ≤ 40) ∧ Hid (∀ y, y < x → stT L s j y = false) ∧ Hid (Ext w5 wr)) (fun xv _ => (40 - intOf xv).toNat)
              case atStart => exact ⟨-40, by first | rfl | go_num, by omega, hlow, Ext.refl _⟩
              case round =>
                clear hlow
                obtain ⟨x, rfl, ⟨hx1, hx2⟩, hlw, hE3⟩ := hrel
                by_cases hxl : x < 40
                · have hst : Hid (stT L s j x = (conP (dvL (cellsP p) x) && conP (dvR (cellsP p) x) && okC (mrT T k j (stU (nrL L s) j (dvL (cellsP p) x)) (stU (nrL L s) j (dvR (cellsP p) x))) (k + 1))) := by
                    have h9 := hsM.out x
                    rw [hLp.out, ← hT.out, ← hm.out] at h9
                    show _ = _
                    rw [← hsR.out x, stR, hLp.out, h9, ← hm.out]; rfl
                  have hlo2 : Hid (stT L s j x = false → ∀ y, y < x + 1 → stT L s j y = false) := by
                    intro hf y hy
                    by_cases e : y = x
                    · rw [e]; exact hf
                    · exact hlw.out y (by omega)
                  have l1 := dvL_len (cellsP p) x
                  have l2 := dvR_len (cellsP p) x
                  have on1 := hid (fun (q : Q2) (hq : q ∈ dvL (cellsP p) x) => hon.out q (List.mem_filter.1 hq).1)
                  have on2 := hid (fun (q : Q2) (hq : q ∈ dvR (cellsP p) x) => hon.out q (List.mem_filter.1 hq).1)
                  go_wp2_with fail
                  refine (l33Divide_any q6 _ c6 (cellsP p) x _ (t6.out.ext hE3.out) (by omega)).mono ?_
                  rintro e w7 ⟨q7, c7, q8, c8, rfl, t7, t8, E7⟩
                  obtain ⟨A, hA⟩ : ∃ A, A = dvL (cellsP p) x := ⟨_, rfl⟩
                  obtain ⟨B, hB⟩ : ∃ B, B = dvR (cellsP p) x := ⟨_, rfl⟩
                  rw [← hA] at t7 hst l1 on1 ⊢
                  rw [← hB] at t8 hst l2 on2 ⊢
                  replace t7 := hid t7
                  replace t8 := hid t8
                  replace E7 := hid (hE3.out.trans E7)
                  replace hA := hid hA
                  replace hB := hid hB
                  by_cases hA0 : A.length = 0
                  · have hf := hid (hlo2.out (by rw [hst.out, conP, decide_eq_false (by omega : ¬ 0 < A.length)]; rfl))
                    have hI0 : ((A.length : Int) == 0) = true := by simp [hA0]
                    clear hlo2 hst
                    go_wp2_with fail
                    go_roundw
                    case rel => exact ⟨x + 1, by first | rfl | go_num, by omega, hf, E7⟩
                    case measure => simp [intOf]; omega
                  · have hI0 : ((A.length : Int) == 0) = false := beq_eq_false_iff_ne.2 (by omega)
                    have hA1 : 0 < A.length := by omega
                    by_cases hB0 : B.length = 0
                    · have hf := hid (hlo2.out (by rw [hst.out, show conP B = false by rw [conP, decide_eq_false (by omega : ¬ 0 < B.length)]; rfl, Bool.and_false]; rfl))
                      have hI1 : ((B.length : Int) == 0) = true := by simp [hB0]
                      clear hlo2 hst
                      go_wp2_with fail
                      go_roundw
                      case rel => exact ⟨x + 1, by first | rfl | go_num, by omega, hf, E7⟩
                      case measure => simp [intOf]; omega
                    · have hI1 : ((B.length : Int) == 0) = false := beq_eq_false_iff_ne.2 (by omega)
                      have kA := hid (fun V (hV : Ext w7 V) => l33Connected_any q7 _ c7 A V (t7.out.ext hV) (by omega) on1.out)
                      have kB := hid (fun V (hV : Ext w7 V) => l33Connected_any q8 _ c8 B V (t8.out.ext hV) (by omega) on2.out)
                      cases hcA : conP A with
                      | false =>
                        have hf := hid (hlo2.out (by rw [hst.out, hcA]; rfl))
                        clear hlo2 hst
                        go_wp2_with fail
                        refine (kA.out _ (Ext.refl _)).mono ?_
                        rw [hcA]
                        rintro e w10 ⟨rfl, E10⟩
                        have E11 := hid (E7.out.trans E10)
                        replace hcA := hid hcA
                        go_wp2_with fail
                        go_roundw
                        case rel => exact ⟨x + 1, by first | rfl | go_num, by omega, hf, E11⟩
                        case measure => simp [intOf]; omega
                      | true =>
                        go_wp2_with fail
                        refine (kA.out _ (Ext.refl _)).mono ?_
                        rw [hcA]
                        rintro e w10 ⟨rfl, E10⟩
                        cases hcB : conP B with
                        | false =>
                          have hf := hid (hlo2.out (by rw [hst.out, hcB, Bool.and_false]; rfl))
                          clear hlo2 hst
                          go_wp2_with fail
                          refine (kB.out _ E10).mono ?_
                          rw [hcB]
                          rintro e w11 ⟨rfl, E11⟩
                          have E12 := hid (E7.out.trans (E10.trans E11))
                          replace hcA := hid hcA
                          replace hcB := hid hcB
                          go_wp2_with fail
                          go_roundw
                          case rel => exact ⟨x + 1, by first | rfl | go_num, by omega, hf, E12⟩
                          case measure => simp [intOf]; omega
                        | true =>
                          go_wp2_with fail
                          refine (kB.out _ E10).mono ?_
                          rw [hcB]
                          rintro e w11 ⟨rfl, E11⟩
                          have E12 := hid (E10.trans E11)
                          have kS := hid (l33Stitched_any q2 qo k c2 co j T (nrL L s) q7 q8 A.length B.length c7 c8 A B w11 (r2.out.ext (hE6.out.trans (E7.out.trans E12.out))) (nr.out.ext (hE6.out.trans (E7.out.trans E12.out))) (by omega) hlj hGr.out (t7.out.ext E12.out) (t8.out.ext E12.out) (by omega) (by omega) on1.out on2.out)
                          rw [hcA, hcB, Bool.true_and, Bool.true_and] at hst
                          replace hcA := hid hcA
                          replace hcB := hid hcB
                          clear kA kB E10 E11
                          go_wp2_with fail
                          refine kS.out.mono ?_
                          rintro e w12 ⟨rfl, E13⟩
                          have E14 := hid (E7.out.trans (E12.out.trans E13))
                          cases hok2 : okC (mrT T k j (stU (nrL L s) j A) (stU (nrL L s) j B)) (k + 1) with
                          | true =>
                            have hfin : Hid (FsR l s j x 0) := hres.out _ _ _ (Or.inl ⟨rfl, j, rfl, hlj, hst.out.trans hok2, hlw.out, hno.out⟩)
                            replace hok2 := hid hok2
                            clear kS hlo2 hst
                            go_wp2_with fail
                            refine bodyPost_ret (results_tmp3 rfl _ _ _) rfl ?_
                            exact ⟨_, _, _, rfl, hfin.out, hE.out.trans (hE6.out.trans E14.out)⟩
                          | false =>
                            have hf := hid (hlo2.out (hst.out.trans hok2))
                            replace hok2 := hid hok2
                            clear kS hlo2 hst
                            go_wp2_with fail
                            go_roundw
                            case rel => exact ⟨x + 1, by first | rfl | go_num, by omega, hf, E14⟩
                            case measure => simp [intOf]; omega
                · have hnx : Hid (∀ t, t < j + 1 → ∀ y, stT L s t y = false) := by
                    intro t ht y
                    by_cases e : t = j
                    · subst e
                      cases hf : stT L s t y with
                      | false => rfl
                      | true =>
                        have := hlo.out y hf
                        rw [hlw.out y (by omega)] at hf; cases hf
                    · exact hno.out t (by omega) y
                  have hEn := hid (hE6.out.trans hE3.out)
                  go_wp2_with fail
                  go_roundw
                  case rel => exact ⟨j + 1, by omega, by go_num, hnx, hEn⟩
                  case measure => simp [intOf]; omega
            · have hljI : ¬ (j : Int) < (k : Int) := by omega
              have hfin : Hid (FsR l s 0 0 5) := hres.out _ _ _ (Or.inr ⟨rfl, rfl, rfl, fun t ht => hno.out t (by omega)⟩)
              go_wp2_with fail
              refine bodyPost_ret (results_tmp3 rfl _ _ _) rfl ?_
              exact ⟨_, _, _, rfl, hfin.out, hE.out.trans hE2.out⟩
  · have hB3 : (ptC l s != 0) = true := by simpa using h0
    have hfin : Hid (FsR l s 0 0 (ptC l s)) := Or.inl ⟨h0, rfl, rfl, rfl⟩
    obtain ⟨C, hC⟩ : ∃ C, C = ptC l s := ⟨_, rfl⟩
    rw [← hC] at h0 hB3 hfin
    go_enter Try.func51, Try.ntmps51
    go_wp2_with fail
    refine hp.out.mono ?_
    rintro e w1 ⟨q1, c1, q2, c2, rfl, r1, r2, E1⟩
    rw [← hC]
    replace hC := hid hC
    replace r1 := hid r1
    replace r2 := hid r2
    go_wp2_with fail
    refine bodyPost_ret (results_tmp3 rfl _ _ _) rfl ?_
    exact ⟨_, _, _, rfl, hfin.out, E1⟩
set_option maxRecDepth 100000 in
set_option maxHeartbeats 4000000 in
theorem lawFirstStitch (q0 : Option Addr) (n0 c0 : Nat) (l0 : List Q4) (a1 : Int) (s0 : Int) (s1 : Int) (s2 : Int) (w : World) (h0 : SlT enc4 4 w q0 n0 l0) (m0 : n0 ≤ maxLen) 
    (hS : Hid (n0 ≤ 1048576 → ∀ (W : World) (q0 : Option Addr) (c0 : Nat), SlT enc4 4 W q0 n0 l0 → Calls Try.prog 51 #[.slice q0 n0 c0, .int .i64 a1] W fun e w' => e = .returned (.tuple #[.int .i64 s0, .int .i64 s1, .int .i64 s2]) ∧ Ext W w'))
    (hI : Hid (n0 ≤ 1048576 → ∀ (W : World) (q0 : Option Addr) (c0 : Nat), SlT enc4 4 W q0 n0 l0 → Calls Try.prog 32 #[.slice q0 n0 c0, .int .i64 a1] W fun e w' => e = .returned (.tuple #[.int .i64 s0, .int .i64 s1, .int .i64 s2]) ∧ Ext W w')) :
    Calls Try.prog 13 #[.slice q0 n0 c0, .int .i64 a1] w fun e w' => e = .returned (.bool true) ∧ Ext w w' := by
  have e0 := hid h0.length
  unfold maxLen at m0
  by_cases x0 : 1048576 < (n0 : Int)
  · go_enter Try.func13, Try.ntmps13
    go_wp2_with fail
    refine (szRectS_any q0 n0 c0 _ _ (by omega) (by omega) (by omega)).mono ?_
    rintro e w' ⟨rfl, rfl⟩
    rw [if_pos (by omega)]
    go_wp2_with fail
    go_ret
    exact ⟨rfl, Ext.refl _⟩
  go_enter Try.func13, Try.ntmps13
  go_wp2_with fail
  refine (szRectS_any q0 n0 c0 _ _ (by omega) (by omega) (by omega)).mono ?_
  rintro e w' ⟨rfl, rfl⟩
  rw [if_neg (by omega)]
  have y0 := x0
  replace x0 : n0 ≤ 1048576 := by omega
  clear y0
  have F := Ext.refl w
  go_wp2_with fail
  refine (toRectS_any _ n0 _ l0 _ (h0.ext F) (by omega)).mono ?_
  rintro e w1 ⟨t0, rfl, ot0, E⟩
  replace F := F.trans E
  clear E
  go_wp2_with fail
  refine (hS.out x0 _ _ _ (SlT.of_owns enc4_len e0.out ot0)).mono ?_
  rintro e w2 ⟨rfl, E⟩
  replace F := F.trans E
  clear E ot0
  have S := Ext.refl w2
  go_wp2_with fail
  refine (toRectS_any _ n0 _ l0 _ (h0.ext F) (by omega)).mono ?_
  rintro e w3 ⟨x0q, rfl, ox0, E⟩
  replace F := F.trans E
  replace S := S.trans E
  have zx0 := E.le
  clear E
  go_wp2_with fail
  refine (hI.out x0 _ _ _ (SlT.of_owns enc4_len e0.out ox0)).mono ?_
  rintro e w4 ⟨rfl, E⟩
  have zI := E.le
  have zo0 := owns_ge ox0
  replace F := F.trans E
  replace S := S.trans E
  replace ox0 := owns_ext ox0 E
  clear E
  go_wp2_with fail
  refine (toRectS_any _ n0 _ l0 _ (h0.ext F) (by omega)).mono ?_
  rintro e w5 ⟨y0q, rfl, oy0, E⟩
  replace F := F.trans E
  replace S := S.trans E
  replace ox0 := owns_ext ox0 E
  clear E
  go_wp2_with fail
  refine (eqRectS_same _ _ _ _ _ l0 _ (SlT.of_owns enc4_len e0.out ox0) (SlT.of_owns enc4_len e0.out oy0) (by omega)).mono ?_
  rintro e w6 ⟨rfl, E⟩
  replace F := F.trans E
  replace S := S.trans E
  replace ox0 := owns_ext ox0 E
  clear E oy0
  go_wp2_with fail
  go_ret
  exact ⟨rfl, F⟩
theorem exactFirstStitch_any (q : Option Addr) (n c : Nat) (l : List Q4) (s : Int) (w : World) (h : SlT enc4 4 w q n l) (hm : n ≤ maxLen) :
    Calls Try.prog 13 #[.slice q n c, .int .i64 s] w fun e w' => e = .returned (.bool true) ∧ Ext w w' := by
  obtain ⟨i, x, C, hF⟩ := FsR_ex l s
  refine lawFirstStitch q n c l s i x C w h hm (hid fun hn W q c hW => (specFirstStitch_any q n c l s W hW hn).mono ?_) (hid fun hn W q c hW => (FirstStitch_any q n c l s W hW hn).mono ?_)
  · rintro e w' ⟨i', x', C', rfl, hF', hE⟩
    obtain ⟨rfl, rfl, rfl⟩ := hF.uniq hF'
    exact ⟨rfl, hE⟩
  · rintro e w' ⟨i', x', C', rfl, hF', hE⟩
    obtain ⟨rfl, rfl, rfl⟩ := hF.uniq hF'
    exact ⟨rfl, hE⟩
end Go.Proofs.Ytaigndaabmelhaa
