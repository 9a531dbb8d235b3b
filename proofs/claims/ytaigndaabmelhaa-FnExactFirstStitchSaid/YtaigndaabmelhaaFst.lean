/- Contract of the program's FirstStitch. Condition: at most 2^20 rectangles. -/
import Derived.Test.YtaigndaabmelhaaFsu
import Derived.Deep.RegionWith
namespace Go.Proofs.Ytaigndaabmelhaa
open Go.RowKit

def FsB (l : List Q4) (s : Int) (w : World) (e : Ending) (w' : World) : Prop := ∃ i x C : Int, e = .returned (.tuple #[.int .i64 i, .int .i64 x, .int .i64 C]) ∧ FsR l s i x C ∧ Ext w w'
set_option maxRecDepth 100000 in
set_option maxHeartbeats 8000000 in
theorem FirstStitch_any (q : Option Addr) (n c : Nat) (l : List Q4) (s : Int) (w : World) (h : SlT enc4 4 w q n l) (hn : n ≤ 1048576) :
    Calls Try.prog 32 #[.slice q n c, .int .i64 s] w (FsB l s w) := by
  have hp := hid (patternTable_cap q n c l s w h hn)
  have hpl := ptL_len l s
  by_cases h0 : ptC l s = 0
  · have hrows := hid (tabL_rows2 (ptL l s) s)
    have hok := hid (ptL_ok l s)
    have hreg : Hid (∀ x ∈ ptL l s, isReg x = true) := by
      intro x hx
      rw [(ptC_prts h0).1, List.mem_map] at hx
      obtain ⟨g, _, rfl⟩ := hx
      exact isReg_canon g
    have hne := hid (ptL_neq l s)
    have hs := (ptC_prts h0).2.2.2
    obtain ⟨hs1, hs8⟩ := hs
    obtain ⟨L, hL⟩ : ∃ L, L = ptL l s := ⟨_, rfl⟩
    obtain ⟨T, hT⟩ : ∃ T, T = tabL L s := ⟨_, rfl⟩
    obtain ⟨m, hm⟩ : ∃ m, m = L.length := ⟨_, rfl⟩
    rw [← hL] at hrows hok hreg hne hpl
    rw [← hT, ← hm] at hrows
    rw [← hm] at hpl
    cases hb : cpO l s with
    | true =>
      have hbb : Hid (okC T m = true) := by show _ = _; rw [hT, hm, hL]; exact hb
      have hres : Hid (FsR l s 0 0 6) := Or.inr (Or.inl ⟨h0, hb, rfl, rfl, rfl⟩)
      go_enter Try.func32, Try.ntmps32
      go_wp2_with fail
      refine hp.out.mono ?_
      rintro e w1 ⟨q1, c1, q2, c2, rfl, hcap, r1, r2, E1⟩
      rw [h0]
      rw [← hL, ← hm] at r1 r2 hcap ⊢
      rw [← hT] at r2
      replace r2 := hid r2
      replace E1 := hid E1
      replace hT := hid hT
      replace hm := hid hm
      replace hL := hid hL
      replace h0 := hid h0
      replace hb := hid hb
      clear r1
      go_wp2_with fail
      refine (colored_any q2 m c2 T _ r2.out (by omega) hrows.out).mono ?_
      rintro e w2 ⟨q5, c5, rfl, o5, E2⟩
      rw [hbb.out]
      have hE := hid (E1.out.trans E2)
      clear E2 o5
      go_wp2_with fail
      refine bodyPost_ret (results_tmp3 rfl _ _ _) rfl ?_
      exact ⟨0, 0, 6, rfl, hres.out, hE.out⟩
    | false =>
      have hbb : Hid (okC T m = false) := by show _ = _; rw [hT, hm, hL]; exact hb
      have hres : Hid (∀ i x C, StF (stT L s) m i x C → FsR l s i x C) := by
        intro i x C hh
        rw [hm, hL] at hh
        exact Or.inr (Or.inr ⟨h0, hb, hh⟩)
      go_enter Try.func32, Try.ntmps32
      go_wp2_with fail
      refine hp.out.mono ?_
      rintro e w1 ⟨q1, c1, q2, c2, rfl, hcap, r1, r2, E1⟩
      rw [h0]
      rw [← hL, ← hm] at r1 r2 hcap ⊢
      rw [← hT] at r2
      replace r2 := hid r2
      replace r1 := hid r1
      replace E1 := hid E1
      replace hT := hid hT
      replace hm := hid hm
      replace hL := hid hL
      replace h0 := hid h0
      replace hb := hid hb
      go_wp2_with fail
      refine (colored_any q2 m c2 T _ r2.out (by omega) hrows.out).mono ?_
      rintro e w2 ⟨q5, c5, rfl, o5, E2⟩
      rw [hbb.out]
      have hE := hid (E1.out.trans E2)
      replace r1 := hid (r1.out.ext E2)
      clear E2 o5 r2 E1
      go_wp2_with fail
      go_loopw [41] (fun iv wr => ∃ k : Nat, k ≤ m ∧ iv = .int .i64 k ∧ Hid (∀ j, j < k → ∀ y, stT L s j y = false) ∧ Hid (Ext w2 wr)) (fun i _ => m - (intOf i).toNat)
      case atStart => exact ⟨0, by omega, rfl, fun j hj => by omega, Ext.refl _⟩
      case round =>
        obtain ⟨k, hk, rfl, hno, hE2⟩ := hrel
        by_cases hlt : k < m
        · have hltI : (k : Int) < (m : Int) := by omega
          obtain ⟨b, off, q3, n3, c3, p, rfl, hbw, hp3, z3, t3⟩ := (r1.out.ext hE2.out).get hlt
          have hpm := List.mem_of_getElem? hp3.out
          have hn3 : n3 ≤ 3200 := by rw [← t3.length]; exact (hok.out p hpm).1
          have hpos : 0 < n3 := by rw [← t3.length]; exact List.length_pos_iff.2 (hne.out p hpm)
          have hpv := hid (hok.out p hpm).2
          have hbv := hid (box_v (hne.out p hpm) hpv.out)
          have hpr := hid (hreg.out p hpm)
          replace t3 := hid t3
          have hLp : Hid (L.getD k [] = p) := getD_of hp3.out
          go_wp2_with fail
          refine (boxOf_any q3 n3 c3 p _ t3.out hpos (by omega)).mono ?_
          rintro e w5 ⟨rfl, E5⟩
          replace E5 := hid E5
          obtain ⟨Bx, hBx⟩ : ∃ Bx, Bx = boxL p := ⟨_, rfl⟩
          rw [← hBx] at hbv ⊢
          replace hBx := hid hBx
          clear z3
          go_upto_region 11 with (fail)
          generalize hW : w5.alloc _ = W6
          obtain ⟨E6, z6, b6⟩ := boxes1 hW
          clear hW
          have bx := hid (show Blk W6 w5.heap.size [.int .i64 Bx.a, .int .i64 Bx.b, .int .i64 Bx.c, .int .i64 Bx.d] _ from b6)
          obtain ⟨P, hP⟩ : ∃ P, P = w5.heap.size := ⟨_, rfl⟩
          rw [← hP] at bx ⊢
          replace hP := hid hP
          replace t3 := hid (t3.out.ext (E5.out.trans E6))
          replace E6 := hid (hE2.out.trans (E5.out.trans E6))
          obtain ⟨⟨xa0, xa1, xa2⟩, xb0, xb1, xb2⟩ := vR_iff.1 hbv.out
          have hlow : Hid (∀ y, y < Bx.a + 1 → stT L s k y = false) := by
            intro y hy
            rw [stT, hLp.out, ← hBx.out, decide_eq_false (by omega : ¬ Bx.a < y)]; rfl
          obtain ⟨p9, p0, p1, p2, p3⟩ := bx.out.quad
          clear b6 z6
          go_wp2_with fail
          go_loopw [15] (fun xv wr => ∃ x : Int, xv = .int .i64 x ∧ (Bx.a + 1 ≤ x ∧ x ≤ Bx.c) ∧ Hid (∀ y, y < x → stT L s k y = false) ∧ Hid (Ext W6 wr)) (fun xv _ => (Bx.c - intOf xv).toNat)
          case atStart => exact ⟨Bx.a + 1, by first | rfl | go_num, by omega, hlow, Ext.refl _⟩
          case round =>
            clear hlow p9 p0 p1 p2 p3
            obtain ⟨x, rfl, ⟨hx1, hx2⟩, hlo, hE3⟩ := hrel
            obtain ⟨p9, p0, p1, p2, p3⟩ := (bx.out.ext hE3.out).quad
            by_cases hxl : x < Bx.c
            · have hbl : vR (lfQ p x) = true := by rw [vR_iff]; simp only [lfQ]; rw [← hBx.out]; omega
              have hbr : vR (rtQ p x) = true := by rw [vR_iff]; simp only [rtQ]; rw [← hBx.out]; omega
              have kL := ClipRegion_any q3 n3 c3 p (lfQ p x) wr (t3.out.ext hE3.out) (by omega) hpr.out hbl
              have kR := fun V (hV : Ext W6 V) => ClipRegion_any q3 n3 c3 p (rtQ p x) V (t3.out.ext hV) (by omega) hpr.out hbr
              simp only [lfQ, ← hBx.out] at kL
              simp only [rtQ, ← hBx.out] at kR
              have hlf : lfL p x = canon (clipG p ⟨Bx.a, Bx.b, x, Bx.d⟩) := by rw [lfL, lfQ, ← hBx.out]
              have hrt : rtL p x = canon (clipG p ⟨x, Bx.b, Bx.c, Bx.d⟩) := by rw [rtL, rtQ, ← hBx.out]
              rw [← hlf] at kL
              rw [← hrt] at kR
              have vA := hid (show ∀ r ∈ lfL p x, vR r = true from canon_vr _)
              have vB := hid (show ∀ r ∈ rtL p x, vR r = true from canon_vr _)
              have nA : (lfL p x).length ≤ 3200 := canon_len _
              have nB : (rtL p x).length ≤ 3200 := canon_len _
              obtain ⟨A, hA⟩ : ∃ A, A = lfL p x := ⟨_, rfl⟩
              obtain ⟨B, hB⟩ : ∃ B, B = rtL p x := ⟨_, rfl⟩
              rw [← hA] at kL vA nA
              rw [← hB] at kR vB nB
              obtain ⟨a1, ha1⟩ : ∃ a1, a1 = (partsG (gL A)).length := ⟨_, rfl⟩
              obtain ⟨b1, hb1⟩ : ∃ b1, b1 = (partsG (gL B)).length := ⟨_, rfl⟩
              have hst : Hid (stT L s k x = ((decide (a1 = 1) && decide (b1 = 1)) && okC (pgT L s k A B) (m + 1))) := by
                show _ = _
                rw [stT, hLp.out, ← hBx.out, ← hA, ← hB, ← ha1, ← hb1, ← hm.out, decide_eq_true (by omega : Bx.a < x), decide_eq_true hxl]; rfl
              replace kL := hid kL
              replace kR := hid kR
              replace hA := hid hA
              replace hB := hid hB
              clear hlf hrt hbl hbr
              go_wp2_with fail
              refine kL.out.mono ?_
              rintro e w7 ⟨q7, c7, rfl, o7, E7⟩
              have tA := hid (SlT.of_owns (l := A) enc4_len rfl o7)
              replace E7 := hid (hE3.out.trans E7)
              obtain ⟨p9, p0, p1, p2, p3⟩ := (bx.out.ext E7.out).quad
              clear o7
              go_wp2_with fail
              refine (kR.out _ E7.out).mono ?_
              rintro e w8 ⟨q8, c8, rfl, o8, E8⟩
              have tB := hid (fun V (hV : Ext w8 V) => (SlT.of_owns (l := B) enc4_len rfl o8).ext hV)
              replace tA := hid (tA.out.ext E8)
              replace E8 := hid (E7.out.trans E8)
              clear o8 p9 p0 p1 p2 p3
              go_wp2_with fail
              refine (components_any q7 _ c7 A _ tA.out (by omega) vA.out).mono ?_
              rintro e w9 ⟨q9, c9, H9, rfl, _, E9⟩
              rw [← ha1]
              have E89 := hid E9
              replace tA := hid (tA.out.ext E9)
              replace E9 := hid (E8.out.trans E9)
              have hlo2 : Hid (stT L s k x = false → ∀ y, y < x + 1 → stT L s k y = false) := by
                intro hf y hy
                by_cases e : y = x
                · rw [e]; exact hf
                · exact hlo.out y (by omega)
              by_cases ha : a1 = 1
              · have hd1 : ((a1 : Int) != 1) = false := by simp [ha]
                have hd2 : (a1 : Int) = 1 := by omega
                replace ha1 := hid ha1
                go_wp2_with fail
                refine (components_any q8 _ c8 B _ (tB.out _ E89.out) (by omega) vB.out).mono ?_
                rintro e w10 ⟨q10, c10, H10, rfl, _, E10⟩
                rw [← hb1]
                have E810 := hid (E89.out.trans E10)
                replace tA := hid (tA.out.ext E10)
                replace E9 := hid (E9.out.trans E10)
                by_cases hb : b1 = 1
                · have hd3 : ((b1 : Int) != 1) = false := by simp [hb]
                  have hd4 : (b1 : Int) = 1 := by omega
                  replace hb1 := hid hb1
                  obtain ⟨H, hH, hHL, hrow⟩ := r1.out.ext ((E6.out.trans E9.out))
                  obtain ⟨m', hm'⟩ : ∃ m', m' + (k + 1) = m := ⟨m - (k + 1), by omega⟩
                  have hkc : (k : Int) ≤ (c1 : Int) := by omega
                  have hkN : k + 1 ≤ m := by omega
                  have hkm : (k : Int) + 1 ≤ (m : Int) := by omega
                  have hkm2 : (k : Int) + 1 ≤ (c1 : Int) := by omega
                  have hc10 : ¬ c1 = 0 := by omega
                  have hk9 : ¬ ((k : Int) + 1 < 0) := by omega
                  have hwr : IntKind.i64.wrap ((k : Int) + 1) = (k : Int) + 1 := by rw [IntKind.wrap_i64]; omega
                  have hc9 : ¬ c1 < k := by omega
                  have hf2 := hid (from_H hH hkN hcap)
                  have ht1 := hid (to_H (k := k) hH (by omega))
                  have hsome : ∃ a, (if c1 = k + 1 then some (⟨b, off, none⟩ : Addr) else some ⟨b, off + (k + 1), none⟩) = some a := by
                    split
                    · exact ⟨_, rfl⟩
                    · exact ⟨_, rfl⟩
                  obtain ⟨q13, hq13⟩ : ∃ q13, (if c1 = k + 1 then some (⟨b, off, none⟩ : Addr) else some ⟨b, off + (k + 1), none⟩) = q13 := ⟨_, rfl⟩
                  rw [hq13] at hsome hf2
                  replace hsome := hid hsome
                  replace hH := hid hH
                  go_wp2_with fail
                  go_region_with (go_at_call 72; (with_reducible refine (Concat_at _ _ k (m - (k + 1)) c1 (c1 - (k + 1)) (H.take k) (H.drop (k + 1)) (q7, A.length, c7) (q8, B.length, c8) w10 ⟨_, rfl⟩ hsome.out ht1.out hf2.out (by omega) (by omega)).mono ?_); rintro e w11 ⟨q11, c11, rfl, t11, E11⟩; replace t11 := hid t11; replace E11 := hid E11)
                  have hkL : k < L.length := by have := hm.out; omega
                  have hN : k + (m - (k + 1)) + 2 = m + 1 := by omega
                  rw [hN] at t11 ⊢
                  have r11 := hid (SlR.pieces hkL (by have := hm.out; have := hH.out.length; omega) (fun j h l h1 h2 => (hrow j h l h1 h2).ext E11.out) (hA := (q7, A.length, c7)) (hB := (q8, B.length, c8)) (tA.out.ext E11.out) (by exact (tB.out _ E810.out).ext E11.out) t11.out)
                  have hpv2 : Hid (∀ l ∈ piL L k A B, l.length ≤ 3200 ∧ ∀ r ∈ l, vR r = true) := by
                    intro l hl
                    rw [piL, List.mem_append, List.mem_append] at hl
                    rcases hl with (hl | hl) | hl
                    · exact hok.out l (List.mem_of_mem_take hl)
                    · exact hok.out l (List.mem_of_mem_drop hl)
                    · rw [List.mem_cons, List.mem_singleton] at hl
                      rcases hl with rfl | rfl
                      · exact ⟨nA, vA.out⟩
                      · exact ⟨nB, vB.out⟩
                  replace E9 := hid (E9.out.trans E11.out)
                  clear hq13 hsome hf2 ht1 hH hrow hHL t11 hkc hkm hkm2 hc10 hk9 hwr hc9
                  go_wp2_with fail
                  refine (conflictTable_any q11 (m + 1) c11 (piL L k A B) s _ r11.out (by omega) hpv2.out hs1 hs8).mono ?_
                  rintro e w12 ⟨q12, c12, H2, rfl, o12, E12⟩
                  have hpl2 : (tabL (piL L k A B) s).length = m + 1 := by rw [tabL_len, piL_len A B hkL, ← hm.out]
                  have hTr : ∀ r ∈ tabL (piL L k A B) s, r.length = m + 1 := by
                    have := tabL_rowsS (piL L k A B) s
                    rw [piL_len A B hkL, ← hm.out] at this; exact this
                  rw [hpl2] at o12 ⊢
                  obtain ⟨T2, hT2⟩ : ∃ T2, T2 = tabL (piL L k A B) s := ⟨_, rfl⟩
                  rw [← hT2] at o12 hTr hpl2
                  obtain ⟨n0, hn0⟩ : ∃ n0, m = n0 + 1 := ⟨m - 1, by omega⟩
                  have hN2 : m + 1 = n0 + 2 := by omega
                  rw [hN2] at o12 hTr hpl2 r11 ⊢
                  have o13 := o12.ext (show Ext w12 w12.drew from (Ext.refl _).drew)
                  obtain ⟨gt, g1, d1, rfl, z1, hgt, hg1, hb1, hH1, y1, f1, s1⟩ := o13.setAt (i := n0) (k := n0 + 1) (by omega) hTr (by omega)
                  obtain ⟨gt', g2, d2, e9, z2, _, hg2, hb2, hH2, y2, f2, _⟩ := o13.setAt (i := n0 + 1) (k := n0) (by omega) hTr (by omega)
                  cases e9
                  have hg12 : g1 ≠ g2 := fun e => o13.apart n0 (n0 + 1) _ _ (by omega) hH1 hH2 g1 (mem_blkOf.2 ⟨_, rfl, rfl⟩) (mem_blkOf.2 ⟨_, rfl, e.symm⟩)
                  have o14 := s1 false
                  have hTr2 : ∀ r ∈ T2.set n0 ((T2.getD n0 []).set (n0 + 1) false), r.length = n0 + 2 := by
                    intro r hr
                    rcases List.mem_or_eq_of_mem_set hr with hr | rfl
                    · exact hTr r hr
                    · rw [List.length_set, getD_of (List.getElem?_eq_getElem (by omega : n0 < T2.length))]; exact hTr _ (List.getElem_mem _)
                  obtain ⟨gt', g2', d2', e9, _, _, hg3, _, hH2', y3, f3, s2⟩ := o14.setAt (i := n0 + 1) (k := n0) (by omega) hTr2 (by omega)
                  cases e9
                  rw [hH2] at hH2'
                  cases hH2'
                  have o15 := s2 false
                  have hown : (T2.set n0 ((T2.getD n0 []).set (n0 + 1) false)).set (n0 + 1) (((T2.set n0 ((T2.getD n0 []).set (n0 + 1) false)).getD (n0 + 1) []).set n0 false) = ownT T2 (n0 + 2) := by
                    rw [ownT, getD_set _ _ _ _ _ (by omega), if_neg (by omega)]; rfl
                  rw [hown] at o15
                  have r15 := o15.toR (enc := encb) (by omega) encb_len
                  have r15 : Hid (SlR encb 1 ((w12.setCell ⟨g1, n0 + 1, none⟩ (.bool false)).setCell ⟨g2, n0, none⟩ (.bool false)).drew (some ⟨gt, 0, none⟩) (n0 + 2) (ownT T2 (n0 + 2))) := r15
                  have hE15 : Hid (Ext w11 ((w12.setCell ⟨g1, n0 + 1, none⟩ (.bool false)).setCell ⟨g2, n0, none⟩ (.bool false)).drew) :=
                    ((E12.setCell (p := ⟨g1, n0 + 1, none⟩) hb1 _).setCell (p := ⟨g2, n0, none⟩) hb2 _).drew
                  have hcolr : Hid (∀ r ∈ ownT T2 (n0 + 2), r.length = n0 + 2) := ownT_rows (by omega) hpl2 hTr
                  have hval : Hid (stT L s k x = okC (ownT T2 (n0 + 2)) (n0 + 2)) := by
                    show _ = _
                    rw [hst.out, decide_eq_true ha, decide_eq_true hb, Bool.true_and, Bool.true_and, pgT, hT2, ← hN2, ← hm.out]
                  have hlen15 : Hid ((ownT T2 (n0 + 2)).length = n0 + 2) := by show _ = _; rw [ownT_len, hpl2]
                  replace r11 := hid r11
                  replace hN2 := hid hN2
                  replace hn0 := hid hn0
                  replace hT2 := hid hT2
                  have hw1 : IntKind.i64.wrap (n0 : Int) = (n0 : Int) := by rw [IntKind.wrap_i64]; have := hn0.out; omega
                  have hw2 : IntKind.i64.wrap ((n0 : Int) + 2 - 1) = (n0 : Int) + 1 := by rw [IntKind.wrap_i64]; have := hn0.out; omega
                  have hi1 : (n0 : Int) < (n0 : Int) + 2 := by omega
                  have hi3 : 0 ≤ (n0 : Int) + 1 := by omega
                  have hi2 : (n0 : Int) + 1 < (n0 : Int) + 2 := by omega
                  obtain ⟨v2, hv2⟩ : ∃ v2, v2 = Value.bool (edg T2 (n0 + 1) n0) := ⟨_, rfl⟩
                  rw [← hv2] at y2
                  obtain ⟨v1, hv1⟩ : ∃ v1, v1 = Value.bool (edg T2 n0 (n0 + 1)) := ⟨_, rfl⟩
                  rw [← hv1] at y1
                  obtain ⟨v3, hv3⟩ : ∃ v3, v3 = Value.bool (edg (T2.set n0 ((T2.getD n0 []).set (n0 + 1) false)) (n0 + 1) n0) := ⟨_, rfl⟩
                  rw [← hv3] at y3
                  have y4 : w12.cell? ⟨g2, n0, none⟩ = some v2 := y2
                  have y5 : (w12.setCell ⟨g1, n0 + 1, none⟩ (.bool false)).cell? ⟨g2, n0, none⟩ = some v3 := y3
                  have y6 : w12.cell? ⟨g1, n0 + 1, none⟩ = some v1 := y1
                  have f6 : ∀ j, w12.frozen? ⟨g1, j, none⟩ = false := fun j => f1 j
                  have f4 : ∀ j, w12.frozen? ⟨g2, j, none⟩ = false := fun j => f2 j
                  have f5 : ∀ j, (w12.setCell ⟨g1, n0 + 1, none⟩ (.bool false)).frozen? ⟨g2, j, none⟩ = false := fun j => f3 j
                  clear hv1 hv2 hv3
                  clear o13 o14 o15 s1 s2 hTr hTr2 hH1 hH2 hown o12 hlen15 hst
                  go_wp2_with fail
                  go_region_with (fail)
                  all_goals
                    go_wp2_with fail
                    refine (colored_any _ (n0 + 2) c12 (ownT T2 (n0 + 2)) _ r15.out (by have := hn0.out; omega) hcolr.out).mono ?_
                    rintro e w16 ⟨q16, c16, rfl, o16, E16⟩
                    have hE16 := hid (E9.out.trans (hE15.out.trans E16))
                    clear o16 E16 r15 hE15 z1 z2 y1 y2 f1 f2 f3 f4 f5 f6 y3 y4 y5 y6 hg3
                    cases hok2 : okC (ownT T2 (n0 + 2)) (n0 + 2) with
                    | true =>
                      have hfin : Hid (FsR l s k x 0) := hres.out _ _ _ (Or.inl ⟨rfl, k, rfl, hlt, hval.out.trans hok2, hlo.out, hno.out⟩)
                      replace hok2 := hid hok2
                      go_wp2_with fail
                      refine bodyPost_ret (results_tmp3 rfl _ _ _) rfl ?_
                      exact ⟨_, _, _, rfl, hfin.out, hE.out.trans (E6.out.trans hE16.out)⟩
                    | false =>
                      have hf := hid (hlo2.out (hval.out.trans hok2))
                      replace hok2 := hid hok2
                      clear hlo2
                      go_wp2_with fail
                      go_roundw
                      case rel => exact ⟨x + 1, by first | rfl | go_num, by omega, hf, hE16⟩
                      case measure => simp [intOf]; omega
                · have hd3 : ((b1 : Int) != 1) = true := by simp; omega
                  have hd4 : ¬ (b1 : Int) = 1 := by omega
                  have hf := hid (hlo2.out (by rw [hst.out, decide_eq_false hb, Bool.and_false]; rfl))
                  clear hlo2 hst
                  go_wp2_with fail
                  go_roundw
                  case rel => exact ⟨x + 1, by first | rfl | go_num, by omega, hf, E9⟩
                  case measure => simp [intOf]; omega
              · have hd1 : ((a1 : Int) != 1) = true := by simp; omega
                have hd2 : ¬ (a1 : Int) = 1 := by omega
                have hf := hid (hlo2.out (by rw [hst.out, decide_eq_false ha]; rfl))
                clear hlo2 hst
                go_wp2_with fail
                go_roundw
                case rel => exact ⟨x + 1, by first | rfl | go_num, by omega, hf, E9⟩
                case measure => simp [intOf]; omega
            · have hnx : Hid (∀ j, j < k + 1 → ∀ y, stT L s j y = false) := by
                intro j hj y
                by_cases e : j = k
                · subst e
                  by_cases hy : y < x
                  · exact hlo.out y hy
                  · rw [stT, hLp.out, ← hBx.out, decide_eq_false (by omega : ¬ y < Bx.c), Bool.and_false]; rfl
                · exact hno.out j (by omega) y
              have hEn := hid (E6.out.trans hE3.out)
              go_wp2_with fail
              go_roundw
              case rel => exact ⟨k + 1, by omega, by go_num, hnx, hEn⟩
              case measure => simp [intOf]; omega
        · have hltI : ¬ (k : Int) < (m : Int) := by omega
          have hfin : Hid (FsR l s 0 0 5) := hres.out _ _ _ (Or.inr ⟨rfl, rfl, rfl, fun j hj => hno.out j (by omega)⟩)
          go_wp2_with fail
          refine bodyPost_ret (results_tmp3 rfl _ _ _) rfl ?_
          exact ⟨_, _, _, rfl, hfin.out, hE.out.trans hE2.out⟩
  · have hB3 : (ptC l s != 0) = true := by simpa using h0
    have hfin : Hid (FsR l s 0 0 (ptC l s)) := Or.inl ⟨h0, rfl, rfl, rfl⟩
    obtain ⟨C, hC⟩ : ∃ C, C = ptC l s := ⟨_, rfl⟩
    rw [← hC] at h0 hB3 hfin
    go_enter Try.func32, Try.ntmps32
    go_wp2_with fail
    refine hp.out.mono ?_
    rintro e w1 ⟨q1, c1, q2, c2, rfl, hcap, r1, r2, E1⟩
    rw [← hC]
    replace hC := hid hC
    replace r1 := hid r1
    replace r2 := hid r2
    go_wp2_with fail
    refine bodyPost_ret (results_tmp3 rfl _ _ _) rfl ?_
    exact ⟨_, _, _, rfl, hfin.out, E1⟩
end Go.Proofs.Ytaigndaabmelhaa
