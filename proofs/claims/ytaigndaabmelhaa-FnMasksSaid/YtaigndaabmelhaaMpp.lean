/- Contract of IsMaskPair (program). Condition: at most 2^20 rectangles in each list. -/
import Derived.Test.YtaigndaabmelhaaClp
import Derived.Test.YtaigndaabmelhaaMsk
namespace Go.Proofs.Ytaigndaabmelhaa
open Go.RowKit

/-- Part i lies in the list's unit cells. -/
def mcov (L : List (List Q4)) (l : List Q4) (i : Nat) : Bool := covB (gL l) (L.getD i [])
/-- Each part lies in one of the lists. -/
def mcAll (L : List (List Q4)) (a b : List Q4) (m : Nat) : Bool := (List.range m).all fun i => mcov L a i || mcov L b i
/-- The parts below m have no conflict with one on the same side. -/
def mcSep (T : List (List Bool)) (L : List (List Q4)) (a : List Q4) (n m : Nat) : Bool := (List.range m).all fun i => (List.range n).all fun k => !(edg T i k && (mcov L a i == mcov L a k))
def mpV (l : List Q4) (s : Int) (a b : List Q4) : Bool :=
  decide (ptC l s = 0) && isReg a && isReg b && !meetL a b && decide (canon (gL [a, b].flatten) = l) && mcAll (ptL l s) a b (ptL l s).length && mcSep (tabL (ptL l s) s) (ptL l s) a (ptL l s).length (ptL l s).length
theorem mcAll_succ (L : List (List Q4)) (a b : List Q4) (m : Nat) : mcAll L a b (m + 1) = (mcAll L a b m && (mcov L a m || mcov L b m)) := by simp [mcAll, List.range_succ]
theorem mcAll_bad {L : List (List Q4)} {a b : List Q4} {m n : Nat} (h : m < n) (ha : mcov L a m = false) (hb : mcov L b m = false) : mcAll L a b n = false := by
  cases h9 : mcAll L a b n with
  | false => rfl
  | true =>
    rw [mcAll, List.all_eq_true] at h9
    have := h9 m (List.mem_range.2 h)
    rw [ha, hb] at this; cases this
def mcRow (T : List (List Bool)) (L : List (List Q4)) (a : List Q4) (i m : Nat) : Bool := (List.range m).all fun k => !(edg T i k && (mcov L a i == mcov L a k))
theorem mcRow_succ (T : List (List Bool)) (L : List (List Q4)) (a : List Q4) (i m : Nat) : mcRow T L a i (m + 1) = (mcRow T L a i m && !(edg T i m && (mcov L a i == mcov L a m))) := by simp [mcRow, List.range_succ]
theorem mcSep_succ (T : List (List Bool)) (L : List (List Q4)) (a : List Q4) (n m : Nat) : mcSep T L a n (m + 1) = (mcSep T L a n m && mcRow T L a m n) := by simp [mcSep, mcRow, List.range_succ]
theorem mcSep_bad {T : List (List Bool)} {L : List (List Q4)} {a : List Q4} {n i k : Nat} (hi : i < n) (hk : k < n) (he : edg T i k = true) (hc : mcov L a i = mcov L a k) : mcSep T L a n n = false := by
  cases h9 : mcSep T L a n n with
  | false => rfl
  | true =>
    rw [mcSep, List.all_eq_true] at h9
    have h1 := h9 i (List.mem_range.2 hi)
    rw [List.all_eq_true] at h1
    have := h1 k (List.mem_range.2 hk)
    rw [he, hc] at this; simp at this
def mcI (L : List (List Q4)) (a : List Q4) (m : Nat) : List Bool := (List.range m).map (mcov L a)
theorem mcI_len (L : List (List Q4)) (a : List Q4) (m : Nat) : (mcI L a m).length = m := by simp [mcI]
theorem mcI_succ (L : List (List Q4)) (a : List Q4) (m : Nat) : mcI L a (m + 1) = mcI L a m ++ [mcov L a m] := by simp [mcI, List.range_succ]
theorem mcI_at {L : List (List Q4)} {a : List Q4} {m i : Nat} (h : i < m) : (mcI L a m)[i]? = some (mcov L a i) := by rw [mcI, List.getElem?_map, List.getElem?_range h]; rfl
theorem SlS.pair {w : World} {q1 q2 : Option Addr} {n1 n2 c1 c2 B : Nat} {a b : List Q4} (hB : w.heap[B]? = some (.cells #[.slice q1 n1 c1, .slice q2 n2 c2] 27 (0, 0))) (h1 : SlT enc4 4 w q1 n1 a) (h2 : SlT enc4 4 w q2 n2 b) : SlS w (some ⟨B, 0, none⟩) 2 [a, b] := by
  refine ⟨[(q1, n1, c1), (q2, n2, c2)], SlT.of_owns encH_len rfl (owns_blk (base := 0) (n := 2) (size := 1) (cs := [.slice q1 n1 c1, .slice q2 n2 c2]) hB (Nat.zero_le _) rfl (by simp [maxLen])), rfl, fun k h l hh hl => ?_⟩
  match k, hh, hl with
  | 0, hh, hl => cases hh; cases hl; exact h1
  | 1, hh, hl => cases hh; cases hl; exact h2
set_option maxRecDepth 100000 in
set_option maxHeartbeats 16000000 in
theorem IsMaskPair_any (q qa qb : Option Addr) (n c na ca nb cb : Nat) (l a b : List Q4) (s : Int) (w : World) (h : SlT enc4 4 w q n l) (ha : SlT enc4 4 w qa na a) (hb : SlT enc4 4 w qb nb b) (hn : n ≤ 1048576) (hna : na ≤ 1048576) (hnb : nb ≤ 1048576) :
    Calls Try.prog 36 #[.slice q n c, .int .i64 s, .slice qa na ca, .slice qb nb cb] w fun e w' => e = .returned (.bool (mpV l s a b)) ∧ Ext w w' := by
  have hp := hid (patternTable_any q n c l s w h hn)
  have ka := fun V (hV : Ext w V) => IsRegion_any qa na ca a V (ha.ext hV) hna
  have kb := fun V (hV : Ext w V) => IsRegion_any qb nb cb b V (hb.ext hV) hnb
  have km := fun V (hV : Ext w V) => meet_any qa qb na nb ca cb a b V (ha.ext hV) (hb.ext hV) hna hnb
  have hr : Hid (mpV l s a b = (decide (ptC l s = 0) && isReg a && isReg b && !meetL a b && decide (canon (gL [a, b].flatten) = l) && mcAll (ptL l s) a b (ptL l s).length && mcSep (tabL (ptL l s) s) (ptL l s) a (ptL l s).length (ptL l s).length)) := rfl
  obtain ⟨R, hR⟩ : ∃ R, R = mpV l s a b := ⟨_, rfl⟩
  rw [← hR] at hr ⊢
  clear hR
  by_cases h0 : ptC l s = 0
  · rw [decide_eq_true h0] at hr
    cases h1 : isReg a with
    | false =>
      have hr0 : Hid (R = false) := by show _ = _; rw [hr.out, h1]; rfl
      rw [h1] at ka
      replace ka := hid ka
      clear hr kb km
      go_enter Try.func36, Try.ntmps36
      go_wp2_with fail
      refine hp.out.mono ?_
      rintro e w1 ⟨q1, c1, q2, c2, rfl, r1, r2, E1⟩
      rw [h0]
      replace r1 := hid r1
      replace r2 := hid r2
      replace h0 := hid h0
      go_wp2_with fail
      refine (ka.out _ E1).mono ?_
      rintro e w2 ⟨rfl, E2⟩
      go_wp2_with fail
      go_ret
      exact ⟨ret_bool hr0.out.symm, E1.trans E2⟩
    | true =>
      cases h2 : isReg b with
      | false =>
        have hr0 : Hid (R = false) := by show _ = _; rw [hr.out, h1, h2]; rfl
        rw [h1] at ka
        rw [h2] at kb
        replace ka := hid ka
        replace kb := hid kb
        clear hr km
        go_enter Try.func36, Try.ntmps36
        go_wp2_with fail
        refine hp.out.mono ?_
        rintro e w1 ⟨q1, c1, q2, c2, rfl, r1, r2, E1⟩
        rw [h0]
        replace r1 := hid r1
        replace r2 := hid r2
        replace h0 := hid h0
        go_wp2_with fail
        refine (ka.out _ E1).mono ?_
        rintro e w2 ⟨rfl, E2⟩
        replace E2 := hid (E1.trans E2)
        go_wp2_with fail
        refine (kb.out _ E2.out).mono ?_
        rintro e w3 ⟨rfl, E3⟩
        go_wp2_with fail
        go_ret
        exact ⟨ret_bool hr0.out.symm, E2.out.trans E3⟩
      | true =>
        have vA := (vRs_parts (isReg_iff.1 h1).1)
        have vB := (vRs_parts (isReg_iff.1 h2).1)
        rw [h1, h2] at hr
        rw [h1] at ka
        rw [h2] at kb
        replace ka := hid ka
        replace kb := hid kb
        cases h3 : meetL a b with
        | true =>
          have hr0 : Hid (R = false) := by show _ = _; rw [hr.out, h3]; rfl
          rw [h3] at km
          replace km := hid km
          clear hr
          go_enter Try.func36, Try.ntmps36
          go_wp2_with fail
          refine hp.out.mono ?_
          rintro e w1 ⟨q1, c1, q2, c2, rfl, r1, r2, E1⟩
          rw [h0]
          replace r1 := hid r1
          replace r2 := hid r2
          replace h0 := hid h0
          go_wp2_with fail
          refine (ka.out _ E1).mono ?_
          rintro e w2 ⟨rfl, E2⟩
          replace E2 := hid (E1.trans E2)
          go_wp2_with fail
          refine (kb.out _ E2.out).mono ?_
          rintro e w3 ⟨rfl, E3⟩
          replace E3 := hid (E2.out.trans E3)
          go_wp2_with fail
          refine (km.out _ E3.out).mono ?_
          rintro e w4 ⟨rfl, E4⟩
          go_wp2_with fail
          go_ret
          exact ⟨ret_bool hr0.out.symm, E3.out.trans E4⟩
        | false =>
          rw [h3] at km hr
          replace km := hid km
          replace h1 := hid h1
          replace h2 := hid h2
          replace h3 := hid h3
          have hla := ha.length
          have hlb := hb.length
          obtain ⟨vA1, vA2⟩ := vA
          obtain ⟨vB1, vB2⟩ := vB
          replace vA2 := hid vA2
          replace vB2 := hid vB2
          go_enter Try.func36, Try.ntmps36
          go_wp2_with fail
          refine hp.out.mono ?_
          rintro e w1 ⟨q1, c1, q2, c2, rfl, r1, r2, E1⟩
          rw [h0]
          replace r1 := hid r1
          replace r2 := hid r2
          replace h0 := hid h0
          replace E1 := hid E1
          go_wp2_with fail
          refine (ka.out _ E1.out).mono ?_
          rintro e w2 ⟨rfl, E2⟩
          replace r1 := hid (r1.out.ext E2)
          replace r2 := hid (r2.out.ext E2)
          replace E2 := hid (E1.out.trans E2)
          go_wp2_with fail
          refine (kb.out _ E2.out).mono ?_
          rintro e w3 ⟨rfl, E3⟩
          replace r1 := hid (r1.out.ext E3)
          replace r2 := hid (r2.out.ext E3)
          replace E3 := hid (E2.out.trans E3)
          go_wp2_with fail
          refine (km.out _ E3.out).mono ?_
          rintro e w4 ⟨rfl, E4⟩
          replace r1 := hid (r1.out.ext E4)
          replace r2 := hid (r2.out.ext E4)
          replace E4 := hid (E3.out.trans E4)
          clear E1 E2 E3
          go_wp2_with fail
          generalize hW : w4.alloc _ = W5
          obtain ⟨E5, z5, b5⟩ := boxes1 hW
          clear hW
          replace E4 := hid (E4.out.trans E5)
          have hpr := SlS.pair b5 (ha.ext E4.out) (hb.ext E4.out)
          replace r1 := hid (r1.out.ext E5)
          replace r2 := hid (r2.out.ext E5)
          clear b5 z5 E5
          refine (unionAll_any _ 2 _ [a, b] _ hpr (by omega) (fun x hx => by
            rw [List.mem_cons, List.mem_singleton] at hx
            rcases hx with rfl | rfl
            · exact ⟨by omega, fun r hr => vR_near (vA2.out r hr)⟩
            · exact ⟨by omega, fun r hr => vR_near (vB2.out r hr)⟩)).mono ?_
          rintro e w6 ⟨q6, c6, rfl, o6, E6⟩
          have hcl := canon_len (gL [a, b].flatten)
          have s6 := SlT.of_owns (l := canon (gL [a, b].flatten)) enc4_len rfl o6
          obtain ⟨U, hU⟩ : ∃ U, U = canon (gL [a, b].flatten) := ⟨_, rfl⟩
          rw [← hU] at hcl s6 hr ⊢
          replace hU := hid hU
          replace s6 := hid s6
          replace r1 := hid (r1.out.ext E6)
          replace r2 := hid (r2.out.ext E6)
          replace E4 := hid (E4.out.trans E6)
          clear o6 E6 hpr
          have heq := hid (slicesEqual_any q6 q U.length n c6 c U l _ s6.out (h.ext E4.out) (by omega) hn)
          by_cases h5 : U = l
          · rw [decide_eq_true h5] at heq hr
            replace h5 := hid h5
            go_wp2_with fail
            refine heq.out.mono ?_
            rintro e w7 ⟨rfl, E7⟩
            replace r1 := hid (r1.out.ext E7)
            replace r2 := hid (r2.out.ext E7)
            replace E4 := hid (E4.out.trans E7)
            clear heq E7
            go_wp2_with fail
            refine (cellsOf_any qa na ca a _ (ha.ext E4.out) hna (fun r hr => vR_near (vA2.out r hr))).mono ?_
            rintro e w8 ⟨B1, rfl, _, b1, E8⟩
            replace r1 := hid (r1.out.ext E8)
            replace r2 := hid (r2.out.ext E8)
            replace E4 := hid (E4.out.trans E8)
            replace b1 := hid b1
            clear E8
            go_wp2_with fail
            refine (cellsOf_any qb nb cb b _ (hb.ext E4.out) hnb (fun r hr => vR_near (vB2.out r hr))).mono ?_
            rintro e w9 ⟨B2, rfl, _, b2, E9⟩
            replace r1 := hid (r1.out.ext E9)
            replace r2 := hid (r2.out.ext E9)
            replace b1 := hid (b1.out.ext E9)
            replace E4 := hid (E4.out.trans E9)
            replace b2 := hid b2
            have hLok := hid (ptL_ok l s)
            have hpl := ptL_len l s
            have hrows := hid (tabL_rows2 (ptL l s) s)
            obtain ⟨T, hT⟩ : ∃ T, T = tabL (ptL l s) s := ⟨_, rfl⟩
            rw [← hT] at hr r2 hrows
            obtain ⟨L, hL⟩ : ∃ L, L = ptL l s := ⟨_, rfl⟩
            rw [← hL] at hr r1 r2 hrows hLok hpl ⊢
            obtain ⟨m, hm⟩ : ∃ m, m = L.length := ⟨_, rfl⟩
            rw [← hm] at hr r1 r2 hrows hpl ⊢
            have hr : Hid (R = (mcAll L a b m && mcSep T L a m m)) := by show _ = _; rw [hr.out]; simp
            replace hT := hid hT
            replace hL := hid hL
            replace hm := hid hm
            obtain ⟨j0, hj, hy0, hy1, hy2⟩ := info_parts info_Bool
            clear E9
            go_upto_region 6 with (fail)
            have ho0 : (w9.alloc (.cells #[] 4)).ownsRow w9.heap.size 4 1 (.slice (some ⟨w9.heap.size, 0, none⟩) 0 0) 0 [] := by
              have := World.ownsRow_made (base := w9.heap.size) (e := 4) (size := 1) w9 #[] 0 (by simp) (by simp [maxLen]) (by simp)
              exact this
            generalize hW : w9.alloc _ = W0 at ho0 ⊢
            have E0 : Ext w9 W0 := by rw [← hW]; exact (Ext.refl _).alloc _
            clear hW
            have ho0 := hid (show W0.ownsRow w9.heap.size 4 1 (.slice (some ⟨w9.heap.size, 0, none⟩) 0 0) 0 ((mcI L a 0).flatMap encb) from ho0)
            have E0 := hid E0
            have hz : Hid (mcAll L a b 0 = true) := rfl
            go_wp2_with fail
            go_loopw [14, 61] (fun vo iv wr => ∃ (k : Nat) (qo : Option Addr) (co : Nat), vo = .slice qo k co ∧ iv = .int .i64 k ∧ k ≤ m ∧ Hid (wr.ownsRow w9.heap.size 4 1 (.slice qo k co) k ((mcI L a k).flatMap encb)) ∧ Hid (Ext w9 wr) ∧ Hid (mcAll L a b k = true)) (fun _ i _ => m - (intOf i).toNat)
            case atStart => exact ⟨0, _, _, rfl, by go_num, by omega, ho0, E0, hz⟩
            case round =>
              clear ho0 E0 hz
              obtain ⟨k, qo, co, rfl, rfl, hk, ho, hE, hz⟩ := hrel
              by_cases hlt : k < m
              · have hltI : (k : Int) < (m : Int) := by omega
                obtain ⟨b0, off0, px, nx, cx, x, e9, hbw, hx, z0, t1⟩ := (r1.out.ext hE.out).get hlt
                subst e9
                have hxk := hLok.out x (List.mem_of_getElem? hx.out)
                have hnx := t1.length
                have hcA : Hid (covB (gL a) x = mcov L a k) := by show _ = _; rw [mcov, getD_of hx.out]
                have hcB : Hid (covB (gL b) x = mcov L b k) := by show _ = _; rw [mcov, getD_of hx.out]
                obtain ⟨hxk1, hxk2⟩ := hxk
                have cvA := fun V (hV : Ext _ V) => covers_any B1 (gL a) px nx cx x V (b1.out.ext (hE.out.trans hV)) (t1.ext hV) (by omega) hxk2
                have cvB := fun V (hV : Ext _ V) => covers_any B2 (gL b) px nx cx x V (b2.out.ext (hE.out.trans hV)) (t1.ext hV) (by omega) hxk2
                rw [hcA.out] at cvA
                rw [hcB.out] at cvB
                have hsI := hid (mcI_succ L a k)
                have hsA := hid (mcAll_succ L a b k)
                have hbad := hid (fun h1 h2 => mcAll_bad (L := L) (a := a) (b := b) hlt h1 h2)
                rw [hz.out, Bool.true_and] at hsA
                obtain ⟨fA, hfA⟩ : ∃ f, f = mcov L a k := ⟨_, rfl⟩
                obtain ⟨fB, hfB⟩ : ∃ f, f = mcov L b k := ⟨_, rfl⟩
                rw [← hfA] at cvA hsI hsA hbad
                rw [← hfB] at cvB hsA hbad
                replace cvA := hid cvA
                replace cvB := hid cvB
                replace hfA := hid hfA
                replace hfB := hid hfB
                replace t1 := hid t1
                replace hxk2 := hid hxk2
                cases fA with
                | true =>
                  go_wp2_with fail
                  refine (cvA.out _ (Ext.refl _)).mono ?_
                  rintro e w10 ⟨rfl, E10⟩
                  go_wp2_with fail
                  refine (cvA.out _ E10).mono ?_
                  rintro e w11 ⟨rfl, E11⟩
                  have E11 := hid (E10.trans E11)
                  have ho11 := hid (owns_ext ho.out E11.out)
                  have hE11 := hid (hE.out.trans E11.out)
                  have hsz := hE11.out.le
                  clear z0 hbw E10
                  go_wp2_with (at_builtin; refine wpList_append_own_at _ rfl _ _ 79 rfl w9.heap.size 4 j0 (.bool false) 1 1 Try.underlying79 hj hy0 hy1 hy2 rfl (by omega) _ _ _ rfl (ho11.out.alloc _) ⟨_, 0, none⟩ 1 1 [.bool true] rfl rfl (cells_new1 _ _ _) (one_b _) (len_le (by omega) (by omega)) (by omega) (by simp; omega) ?_; intro v' w12 ho' hg' _ hb'; obtain ⟨q9, c9, rfl⟩ := owns_forms ho'; replace ho' := hid ho'; have hE12 := hid ((hE11.out.alloc (.cells #[.bool true] 4)).grown hg' (fun g hg => (ho11.out.lt g hg).1)); clear hg' hb')
                  go_roundw
                  case rel => exact ⟨k + 1, q9, c9, rfl, by go_num, by omega, by rw [hsI.out, List.flatMap_append]; exact ho'.out, hE12, hid (hsA.out.trans rfl)⟩
                  case measure => simp [intOf]; omega
                | false =>
                  cases fB with
                  | false =>
                    have hr0 : Hid (R = false) := by show _ = _; rw [hr.out, hbad.out rfl rfl]; rfl
                    go_wp2_with fail
                    refine (cvA.out _ (Ext.refl _)).mono ?_
                    rintro e w10 ⟨rfl, E10⟩
                    go_wp2_with fail
                    refine (cvB.out _ E10).mono ?_
                    rintro e w11 ⟨rfl, E11⟩
                    go_wp2_with fail
                    go_ret
                    exact ⟨ret_bool hr0.out.symm, E4.out.trans (hE.out.trans (E10.trans E11))⟩
                  | true =>
                    go_wp2_with fail
                    refine (cvA.out _ (Ext.refl _)).mono ?_
                    rintro e w10 ⟨rfl, E10⟩
                    go_wp2_with fail
                    refine (cvB.out _ E10).mono ?_
                    rintro e w11 ⟨rfl, E11⟩
                    have E11 := hid (E10.trans E11)
                    go_wp2_with fail
                    refine (cvA.out _ E11.out).mono ?_
                    rintro e w12 ⟨rfl, E12⟩
                    have E12 := hid (E11.out.trans E12)
                    have ho11 := hid (owns_ext ho.out E12.out)
                    have hE11 := hid (hE.out.trans E12.out)
                    have hsz := hE11.out.le
                    clear z0 hbw E10
                    go_wp2_with (at_builtin; refine wpList_append_own_at _ rfl _ _ 79 rfl w9.heap.size 4 j0 (.bool false) 1 1 Try.underlying79 hj hy0 hy1 hy2 rfl (by omega) _ _ _ rfl (ho11.out.alloc _) ⟨_, 0, none⟩ 1 1 [.bool false] rfl rfl (cells_new1 _ _ _) (one_b _) (len_le (by omega) (by omega)) (by omega) (by simp; omega) ?_; intro v' w13 ho' hg' _ hb'; obtain ⟨q9, c9, rfl⟩ := owns_forms ho'; replace ho' := hid ho'; have hE12 := hid ((hE11.out.alloc (.cells #[.bool false] 4)).grown hg' (fun g hg => (ho11.out.lt g hg).1)); clear hg' hb')
                    go_roundw
                    case rel => exact ⟨k + 1, q9, c9, rfl, by go_num, by omega, by rw [hsI.out, List.flatMap_append]; exact ho'.out, hE12, hid (hsA.out.trans rfl)⟩
                    case measure => simp [intOf]; omega
              · have hltI : ¬ (k : Int) < (m : Int) := by omega
                obtain rfl : k = m := by omega
                have hr : Hid (R = mcSep T L a k k) := by show _ = _; rw [hr.out, hz.out]; rfl
                have sI := hid (SlT.of_owns (l := mcI L a k) encb_len (mcI_len L a k) ho.out)
                rename World => wI
                replace r2 := hid (r2.out.ext hE.out)
                have hEw := hid (E4.out.trans hE.out)
                have hz2 : Hid (mcSep T L a k 0 = true) := rfl
                clear ho hz
                go_wp2_with fail
                go_loopw [84] (fun iv wr => ∃ i : Nat, iv = .int .i64 i ∧ i ≤ k ∧ Hid (Ext wI wr) ∧ Hid (mcSep T L a k i = true)) (fun i _ => k - (intOf i).toNat)
                case atStart => exact ⟨0, by go_num, by omega, Ext.refl _, hz2⟩
                case round =>
                  clear hz2
                  obtain ⟨i, rfl, hi, hE2, hz2⟩ := hrel
                  by_cases hli : i < k
                  · have hliI : (i : Int) < (k : Int) := by omega
                    obtain ⟨b5, off5, q7, n7, c7, row, e9, hb5, hrow, z5, t5⟩ := r2.out.get hli
                    subst e9
                    have hn7 : n7 = k := by rw [← t5.length]; exact hrows.out row (List.mem_of_getElem? hrow.out)
                    subst hn7
                    have z5 := (hE2.out.cells _ _ hb5).trans z5
                    have hb5 := Nat.lt_of_lt_of_le hb5 hE2.out.le
                    have hst := hid (mcSep_succ T L a n7 i)
                    rw [hz2.out, Bool.true_and] at hst
                    have hz3 : Hid (mcRow T L a i 0 = true) := rfl
                    replace t5 := hid t5
                    go_wp2_with fail
                    go_loopw [91] (fun iv wr => ∃ j : Nat, iv = .int .i64 j ∧ j ≤ n7 ∧ Hid (Ext wI wr) ∧ Hid (mcRow T L a i j = true)) (fun i _ => n7 - (intOf i).toNat)
                    case atStart => exact ⟨0, by go_num, by omega, hE2, hz3⟩
                    case round =>
                      clear hz3 hE2 z5 hb5
                      obtain ⟨j, rfl, hj9, hE2, hz3⟩ := hrel
                      by_cases hlj : j < n7
                      · have hljI : (j : Int) < (n7 : Int) := by omega
                        obtain ⟨b6, o6, f, e9, hb6, hf, z6⟩ := (t5.out.ext hE2.out).flag hlj
                        subst e9
                        have hed : Hid (edg T i j = f) := edg_of hrow.out hf.out
                        have hst3 := hid (mcRow_succ T L a i j)
                        rw [hz3.out, hed.out, Bool.true_and] at hst3
                        cases f with
                        | false =>
                          go_wp2_with fail
                          refine wp_region_later (by kernel_rfl) (by kernel_rfl) ?_
                          repeat (go_big_quiet_step (fail))
                          refine wpQuiet_nil ?_
                          rintro w13 ⟨⟨_, E13⟩, rfl⟩
                          have hE13 := hid (hE2.out.trans E13)
                          clear z6 hb6 E13
                          go_wp2_with fail
                          go_roundw
                          case rel => exact ⟨j + 1, by go_num, by omega, hE13, hid (hst3.out.trans rfl)⟩
                          case measure => simp [intOf]; omega
                        | true =>
                          obtain ⟨bI, oI, x, e9, hbI, hx, zx⟩ := (sI.out.ext hE2.out).flag hli
                          subst e9
                          obtain ⟨bI', oI', y, e9, _, hy, zy⟩ := (sI.out.ext hE2.out).flag hlj
                          cases e9
                          have hxv : x = mcov L a i := by have := hx.out; rw [mcI_at hli] at this; exact (Option.some.inj this).symm
                          have hyv : y = mcov L a j := by have := hy.out; rw [mcI_at hlj] at this; exact (Option.some.inj this).symm
                          rw [← hxv, ← hyv] at hst3
                          by_cases hxy : x = y
                          · have hr0 : Hid (R = false) := by show _ = _; rw [hr.out, mcSep_bad hli hlj hed.out (by rw [← hxv, ← hyv, hxy])]
                            have hxe : (x == y) = true := by rw [hxy]; simp
                            have hxd : decide (x = y) = true := decide_eq_true hxy
                            subst hxy
                            replace hxv := hid hxv
                            replace hyv := hid hyv
                            clear hst3
                            go_wp2_with fail
                            refine wp_region_later (by kernel_rfl) (by kernel_rfl) ?_
                            repeat (go_big_quiet_step (fail))
                            refine wpQuiet_nil ?_
                            rintro w13 ⟨⟨_, E13⟩, rfl⟩
                            have hE13 := hid (hE2.out.trans E13)
                            clear z6 hb6 E13 zx zy hbI
                            go_wp2_with fail
                            go_ret
                            exact ⟨ret_bool hr0.out.symm, hEw.out.trans hE13.out⟩
                          · have hxe : (x == y) = false := by simpa using hxy
                            have hxd : decide (x = y) = false := decide_eq_false hxy
                            rw [hxe] at hst3
                            replace hxv := hid hxv
                            replace hyv := hid hyv
                            replace hxy := hid hxy
                            go_wp2_with fail
                            refine wp_region_later (by kernel_rfl) (by kernel_rfl) ?_
                            repeat (go_big_quiet_step (fail))
                            refine wpQuiet_nil ?_
                            rintro w13 ⟨⟨_, E13⟩, rfl⟩
                            have hE13 := hid (hE2.out.trans E13)
                            clear z6 hb6 E13 zx zy hbI
                            go_wp2_with fail
                            go_roundw
                            case rel => exact ⟨j + 1, by go_num, by omega, hE13, hid (hst3.out.trans rfl)⟩
                            case measure => simp [intOf]; omega
                      · have hljI : ¬ (j : Int) < (n7 : Int) := by omega
                        obtain rfl : j = n7 := by omega
                        rw [hz3.out] at hst
                        go_wp2_with fail
                        go_roundw
                        case rel => exact ⟨i + 1, by go_num, by omega, hE2, hst⟩
                        case measure => simp [intOf]; omega
                  · have hliI : ¬ (i : Int) < (k : Int) := by omega
                    obtain rfl : i = k := by omega
                    have hr0 : Hid (R = true) := by show _ = _; rw [hr.out, hz2.out]
                    go_wp2_with fail
                    go_ret
                    exact ⟨ret_bool hr0.out.symm, hEw.out.trans hE2.out⟩
          · rw [decide_eq_false h5] at heq
            have hr0 : Hid (R = false) := by show _ = _; rw [hr.out, decide_eq_false h5]; rfl
            replace h5 := hid h5
            go_wp2_with fail
            refine heq.out.mono ?_
            rintro e w7 ⟨rfl, E7⟩
            go_wp2_with fail
            go_ret
            exact ⟨ret_bool hr0.out.symm, E4.out.trans E7⟩
  · have hr0 : Hid (R = false) := by show _ = _; rw [hr.out, decide_eq_false h0]; rfl
    have hB3 : (ptC l s != 0) = true := by simpa using h0
    obtain ⟨C, hC⟩ : ∃ C, C = ptC l s := ⟨_, rfl⟩
    rw [← hC] at hB3 h0
    clear ka kb km hr
    go_enter Try.func36, Try.ntmps36
    go_wp2_with fail
    refine hp.out.mono ?_
    rintro e w1 ⟨q1, c1, q2, c2, rfl, r1, r2, E1⟩
    rw [← hC]
    replace hC := hid hC
    replace r1 := hid r1
    replace r2 := hid r2
    go_wp2_with fail
    go_ret
    exact ⟨ret_bool hr0.out.symm, E1⟩
end Go.Proofs.Ytaigndaabmelhaa
