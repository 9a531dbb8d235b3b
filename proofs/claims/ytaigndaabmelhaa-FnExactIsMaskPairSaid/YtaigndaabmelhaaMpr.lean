/- Contract of IsMaskPair (reference); the law FnExactIsMaskPair. Condition: at most 2^20 rectangles in each list. -/
import Derived.Test.YtaigndaabmelhaaMpq
namespace Go.Proofs.Ytaigndaabmelhaa
open Go.RowKit

def mcol (L : List (List Q4)) (a b : List Q4) (i : Nat) : Int := if mfst L a b i = true then 0 else 1
def mcL (L : List (List Q4)) (a b : List Q4) (m : Nat) : List Int := (List.range m).map (mcol L a b)
theorem mcL_len (L : List (List Q4)) (a b : List Q4) (m : Nat) : (mcL L a b m).length = m := by simp [mcL]
theorem mcL_succ (L : List (List Q4)) (a b : List Q4) (m : Nat) : mcL L a b (m + 1) = mcL L a b m ++ [mcol L a b m] := by simp [mcL, List.range_succ]
theorem mcL_at {L : List (List Q4)} {a b : List Q4} {m i : Nat} (h : i < m) : (mcL L a b m)[i]? = some (mcol L a b i) := by rw [mcL, List.getElem?_map, List.getElem?_range h]; rfl
theorem mcol_eq (L : List (List Q4)) (a b : List Q4) (i k : Nat) : decide (mcol L a b i = mcol L a b k) = (mfst L a b i == mfst L a b k) := by
  rw [mcol, mcol]; cases mfst L a b i <;> cases mfst L a b k <;> rfl
theorem mfAll_succ (L : List (List Q4)) (a b : List Q4) (m : Nat) : mfAll L a b (m + 1) = (mfAll L a b m && (mfst L a b m || msnd L a b m)) := by simp [mfAll, List.range_succ]
theorem mfAll_bad {L : List (List Q4)} {a b : List Q4} {m n : Nat} (h : m < n) (ha : mfst L a b m = false) (hb : msnd L a b m = false) : mfAll L a b n = false := by
  cases h9 : mfAll L a b n with
  | false => rfl
  | true =>
    rw [mfAll, List.all_eq_true] at h9
    have := h9 m (List.mem_range.2 h)
    rw [ha, hb] at this; cases this
def mfRow (T : List (List Bool)) (L : List (List Q4)) (a b : List Q4) (i m : Nat) : Bool := (List.range m).all fun k => !(edg T i k && (mfst L a b i == mfst L a b k))
theorem mfRow_succ (T : List (List Bool)) (L : List (List Q4)) (a b : List Q4) (i m : Nat) : mfRow T L a b i (m + 1) = (mfRow T L a b i m && !(edg T i m && (mfst L a b i == mfst L a b m))) := by simp [mfRow, List.range_succ]
theorem mfSep_succ (T : List (List Bool)) (L : List (List Q4)) (a b : List Q4) (n m : Nat) : mfSep T L a b n (m + 1) = (mfSep T L a b n m && mfRow T L a b m n) := by simp [mfSep, mfRow, List.range_succ]
theorem mfSep_bad {T : List (List Bool)} {L : List (List Q4)} {a b : List Q4} {n i k : Nat} (hi : i < n) (hk : k < n) (he : edg T i k = true) (hc : mfst L a b i = mfst L a b k) : mfSep T L a b n n = false := by
  cases h9 : mfSep T L a b n n with
  | false => rfl
  | true =>
    rw [mfSep, List.all_eq_true] at h9
    have h1 := h9 i (List.mem_range.2 hi)
    rw [List.all_eq_true] at h1
    have := h1 k (List.mem_range.2 hk)
    rw [he, hc] at this; simp at this
theorem l33CellsP_any (q : Option Addr) (n c : Nat) (l : List Q4) (w : World) (h : SlT enc4 4 w q n l) (hn : n ≤ 3200) (hv : ∀ r ∈ l, vR r = true) :
    Calls Try.prog 84 #[.slice q n c] w fun e w' => ∃ (q' : Option Addr) (c' : Nat), e = .returned (.slice q' (cellsP l).length c') ∧ SlT enc2 2 w' q' (cellsP l).length (cellsP l) ∧ Ext w w' :=
  (l33Cells_any q n c l w h hn hv).mono fun _ _ ⟨q', c', h1, h2, h3⟩ => ⟨q', c', h1, SlT.of_owns enc2_len rfl h2, h3⟩
set_option maxRecDepth 100000 in
set_option maxHeartbeats 16000000 in
theorem specIsMaskPair_any (q qa qb : Option Addr) (n c na ca nb cb : Nat) (l a b : List Q4) (s : Int) (w : World) (h : SlT enc4 4 w q n l) (ha : SlT enc4 4 w qa na a) (hb : SlT enc4 4 w qb nb b) (hn : n ≤ 1048576) (hna : na ≤ 1048576) (hnb : nb ≤ 1048576) :
    Calls Try.prog 43 #[.slice q n c, .int .i64 s, .slice qa na ca, .slice qb nb cb] w fun e w' => e = .returned (.bool (mrV l s a b)) ∧ Ext w w' := by
  have hp := hid (l33Parts_any q n c l s w h hn)
  have ka := fun V (hV : Ext w V) => l03Ok_any qa na ca a V (ha.ext hV) hna
  have kb := fun V (hV : Ext w V) => l03Ok_any qb nb cb b V (hb.ext hV) hnb
  have hr : Hid (mrV l s a b = (decide (ptC l s = 0) && isReg a && isReg b && mfAll (ptL l s) a b (ptL l s).length && decide (cntP (gL l) (cellsP a) = (cellsP a).length) && decide (cntP (gL l) (cellsP b) = (cellsP b).length) && mfSep (tabL (ptL l s) s) (ptL l s) a b (ptL l s).length (ptL l s).length)) := rfl
  obtain ⟨Q, hQ⟩ : ∃ Q, Q = mrV l s a b := ⟨_, rfl⟩
  rw [← hQ] at hr ⊢
  clear hQ
  by_cases h0 : ptC l s = 0
  · rw [decide_eq_true h0] at hr
    cases h1 : isReg a with
    | false =>
      have hr0 : Hid (Q = false) := by show _ = _; rw [hr.out, h1]; rfl
      rw [h1] at ka
      replace ka := hid ka
      clear hr kb
      go_enter Try.func43, Try.ntmps43
      go_wp2_with fail
      refine hp.out.mono ?_
      rintro e w1 ⟨q1, c1, q2, c2, rfl, r1, r2, E1⟩
      rw [h0]
      replace r1 := hid r1
      replace r2 := hid r2
      replace h0 := hid h0
      go_wp2_with fail
      refine (ka.out _ E1).mono ?_
      rintro e w2 ⟨rfl, E2⟩
      go_wp2_with fail
      go_ret
      exact ⟨ret_bool hr0.out.symm, E1.trans E2⟩
    | true =>
      cases h2 : isReg b with
      | false =>
        have hr0 : Hid (Q = false) := by show _ = _; rw [hr.out, h1, h2]; rfl
        rw [h1] at ka
        rw [h2] at kb
        replace ka := hid ka
        replace kb := hid kb
        clear hr
        go_enter Try.func43, Try.ntmps43
        go_wp2_with fail
        refine hp.out.mono ?_
        rintro e w1 ⟨q1, c1, q2, c2, rfl, r1, r2, E1⟩
        rw [h0]
        replace r1 := hid r1
        replace r2 := hid r2
        replace h0 := hid h0
        go_wp2_with fail
        refine (ka.out _ E1).mono ?_
        rintro e w2 ⟨rfl, E2⟩
        replace E2 := hid (E1.trans E2)
        go_wp2_with fail
        refine (kb.out _ E2.out).mono ?_
        rintro e w3 ⟨rfl, E3⟩
        go_wp2_with fail
        go_ret
        exact ⟨ret_bool hr0.out.symm, E2.out.trans E3⟩
      | true =>
        obtain ⟨vA1, vA2⟩ := (vRs_parts (isReg_iff.1 h1).1)
        obtain ⟨vB1, vB2⟩ := (vRs_parts (isReg_iff.1 h2).1)
        have vL := hid (vRs_parts (isReg_iff.1 (ptC_prts h0).2.1).1).2
        rw [h1, h2] at hr
        rw [h1] at ka
        rw [h2] at kb
        replace ka := hid ka
        replace kb := hid kb
        replace h1 := hid h1
        replace h2 := hid h2
        have hla := ha.length
        have hlb := hb.length
        replace vA2 := hid vA2
        replace vB2 := hid vB2
        go_enter Try.func43, Try.ntmps43
        go_wp2_with fail
        refine hp.out.mono ?_
        rintro e w1 ⟨q1, c1, q2, c2, rfl, r1, r2, E1⟩
        rw [h0]
        replace r1 := hid r1
        replace r2 := hid r2
        replace h0 := hid h0
        replace E1 := hid E1
        go_wp2_with fail
        refine (ka.out _ E1.out).mono ?_
        rintro e w2 ⟨rfl, E2⟩
        replace r1 := hid (r1.out.ext E2)
        replace r2 := hid (r2.out.ext E2)
        replace E2 := hid (E1.out.trans E2)
        go_wp2_with fail
        refine (kb.out _ E2.out).mono ?_
        rintro e w3 ⟨rfl, E3⟩
        replace r1 := hid (r1.out.ext E3)
        replace r2 := hid (r2.out.ext E3)
        replace E4 := hid (E2.out.trans E3)
        clear E1 E2 E3
        go_wp2_with fail
        refine (l03Bits_any qa na ca a _ (ha.ext E4.out) hna vA2.out).mono ?_
        rintro e w8 ⟨B1, rfl, o1, E8⟩
        have b1 := hid (Bits.of o1)
        replace r1 := hid (r1.out.ext E8)
        replace r2 := hid (r2.out.ext E8)
        replace E4 := hid (E4.out.trans E8)
        clear E8 o1
        go_wp2_with fail
        refine (l03Bits_any qb nb cb b _ (hb.ext E4.out) hnb vB2.out).mono ?_
        rintro e w9 ⟨B2, rfl, o2, E9⟩
        have b2 := hid (Bits.of o2)
        replace r1 := hid (r1.out.ext E9)
        replace r2 := hid (r2.out.ext E9)
        replace b1 := hid (b1.out.ext E9)
        replace E4 := hid (E4.out.trans E9)
        have hLok := hid (ptL_ok l s)
        have hne := hid (ptL_neq l s)
        have hpl := ptL_len l s
        have hrows := hid (tabL_rows2 (ptL l s) s)
        obtain ⟨T, hT⟩ : ∃ T, T = tabL (ptL l s) s := ⟨_, rfl⟩
        rw [← hT] at hr r2 hrows
        obtain ⟨L, hL⟩ : ∃ L, L = ptL l s := ⟨_, rfl⟩
        rw [← hL] at hr r1 r2 hrows hLok hne hpl ⊢
        obtain ⟨m, hm⟩ : ∃ m, m = L.length := ⟨_, rfl⟩
        rw [← hm] at hr r1 r2 hrows hpl ⊢
        have hr : Hid (Q = (mfAll L a b m && (decide (cntP (gL l) (cellsP a) = (cellsP a).length) && (decide (cntP (gL l) (cellsP b) = (cellsP b).length) && mfSep T L a b m m)))) := by show _ = _; rw [hr.out]; simp [Bool.and_assoc]
        replace hT := hid hT
        replace hL := hid hL
        replace hm := hid hm
        obtain ⟨i0, hi, hz0, hz1, hz2⟩ := info_parts info_I64
        clear E9 o2
        go_upto_region 7 with (fail)
        have ho0 : (w9.alloc (.cells #[] 2)).ownsRow w9.heap.size 2 1 (.slice (some ⟨w9.heap.size, 0, none⟩) 0 0) 0 [] := by
          have := World.ownsRow_made (base := w9.heap.size) (e := 2) (size := 1) w9 #[] 0 (by simp) (by simp [maxLen]) (by simp)
          exact this
        generalize hW : w9.alloc _ = W0 at ho0 ⊢
        have E0 : Ext w9 W0 := by rw [← hW]; exact (Ext.refl _).alloc _
        clear hW
        have ho0 := hid (show W0.ownsRow w9.heap.size 2 1 (.slice (some ⟨w9.heap.size, 0, none⟩) 0 0) 0 ((mcL L a b 0).flatMap enc1) from ho0)
        have E0 := hid E0
        have hz : Hid (mfAll L a b 0 = true) := rfl
        go_wp2_with fail
        go_loopw [14, 15] (fun vo iv wr => ∃ (k : Nat) (qo : Option Addr) (co : Nat), vo = .slice qo k co ∧ iv = .int .i64 k ∧ k ≤ m ∧ Hid (wr.ownsRow w9.heap.size 2 1 (.slice qo k co) k ((mcL L a b k).flatMap enc1)) ∧ Hid (Ext w9 wr) ∧ Hid (mfAll L a b k = true)) (fun _ i _ => m - (intOf i).toNat)
        case atStart => exact ⟨0, _, _, rfl, by go_num, by omega, ho0, E0, hz⟩
        case round =>
          clear ho0 E0 hz
          obtain ⟨k, qo, co, rfl, rfl, hk, ho, hE, hz⟩ := hrel
          by_cases hlt : k < m
          · have hltI : (k : Int) < (m : Int) := by omega
            obtain ⟨b0, off0, px, nx, cx, x, e9, hbw, hx, z0, t1⟩ := (r1.out.ext hE.out).get hlt
            subst e9
            have hxk := hLok.out x (List.mem_of_getElem? hx.out)
            have hnx := t1.length
            have hcw := hid (l33CellsP_any px nx cx x _ t1 (by omega) hxk.2)
            have hcb := cellsP_bd x hxk.2
            have hcon := hid (cells_on hxk.2)
            have hsI := hid (mcL_succ L a b k)
            have hmf : Hid (mfst L a b k = (decide (((cntP (gL a) (cellsP x) : Nat) : Int) = ((cellsP x).length : Int)) && decide (((cntP (gL b) (cellsP x) : Nat) : Int) = 0))) := by
              show _ = _
              rw [mfst, getD_of hx.out]
              congr 1 <;> (rw [decide_eq_decide]; omega)
            have hms : Hid (msnd L a b k = (decide (((cntP (gL a) (cellsP x) : Nat) : Int) = 0) && decide (((cntP (gL b) (cellsP x) : Nat) : Int) = ((cellsP x).length : Int)))) := by
              show _ = _
              rw [msnd, getD_of hx.out]
              congr 1 <;> (rw [decide_eq_decide]; omega)
            have hnl : (cellsP x).length ≤ 100000000 := by omega
            have hNpos : 0 < (cellsP x).length := by
              obtain ⟨r, rs, hrr⟩ := List.exists_cons_of_ne_nil (hne.out x (List.mem_of_getElem? hx.out))
              have hrv := vR_iff.1 (hxk.2 r (by rw [hrr]; simp))
              exact List.length_pos_of_mem (mem_cellsP.2 (show inL x (⟨r.a, r.b⟩ : Q2).a (⟨r.a, r.b⟩ : Q2).b = true from List.any_eq_true.2 ⟨r, by rw [hrr]; simp, inR_iff.2 (by simp only; omega)⟩))
            replace t1 := hid t1
            replace hxk := hid hxk
            go_wp2_with fail
            refine hcw.out.mono ?_
            rintro e w10 ⟨q10, c10, rfl, t10, E10⟩
            replace t10 := hid t10
            replace ho := hid (owns_ext ho.out E10)
            replace hE := hid (hE.out.trans E10)
            clear z0 hbw E10 hcw
            go_wp2_with fail
            refine (l33Count_any B1 6400 (gL a) q10 _ c10 (cellsP x) _ (b1.out.ext hE.out) t10.out hnl hcon.out).mono ?_
            rintro e w11 ⟨rfl, E11⟩
            replace ho := hid (owns_ext ho.out E11)
            replace hE := hid (hE.out.trans E11)
            replace t10 := hid (t10.out.ext E11)
            clear E11
            go_wp2_with fail
            refine (l33Count_any B2 6400 (gL b) q10 _ c10 (cellsP x) _ (b2.out.ext hE.out) t10.out hnl hcon.out).mono ?_
            rintro e w12 ⟨rfl, E12⟩
            replace ho := hid (owns_ext ho.out E12)
            replace hE := hid (hE.out.trans E12)
            clear E12 t10
            have hsz := hE.out.le
            obtain ⟨X, hX⟩ : ∃ X : Int, X = (cntP (gL a) (cellsP x) : Nat) := ⟨_, rfl⟩
            obtain ⟨Y, hY⟩ : ∃ Y : Int, Y = (cntP (gL b) (cellsP x) : Nat) := ⟨_, rfl⟩
            obtain ⟨N, hN⟩ : ∃ N : Nat, N = (cellsP x).length := ⟨_, rfl⟩
            rw [← hX, ← hY, ← hN] at hmf hms
            rw [← hN] at hNpos
            rw [← hX, ← hY, ← hN]
            replace hX := hid hX
            replace hY := hid hY
            replace hN := hid hN
            clear hnl hcb
            by_cases hXN : X = (N : Int)
            · by_cases hY0 : Y = 0
              · have hf : Hid (mfst L a b k = true) := by show _ = _; rw [hmf.out, decide_eq_true hXN, decide_eq_true hY0]; rfl
                have hcol : Hid (mcol L a b k = 0) := by show _ = _; rw [mcol, hf.out]; rfl
                have hsA : Hid (mfAll L a b (k + 1) = true) := by show _ = _; rw [mfAll_succ, hz.out, hf.out]; rfl
                have g1 : (X == (N : Int)) = true := by simpa using hXN
                have g1d : decide (X = (N : Int)) = true := decide_eq_true hXN
                have g2 : (Y == (0 : Int)) = true := by simpa using hY0
                have g2d : decide (Y = (0 : Int)) = true := decide_eq_true hY0
                replace hXN := hid hXN
                replace hY0 := hid hY0
                go_wp2_with (at_builtin; refine wpList_append_own_at _ rfl _ _ 41 rfl w9.heap.size 2 i0 (.int .i64 0) 1 8 Try.underlying41 hi hz0 hz1 hz2 rfl (by omega) _ _ _ rfl (ho.out.alloc _) ⟨_, 0, none⟩ 1 1 [.int .i64 0] rfl rfl (cells_new1 _ _ _) (one_int1 _) (len_le (by omega) (by omega)) (by omega) (by simp; omega) ?_; intro v' w13 ho' hg' _ hb'; obtain ⟨q9, c9, rfl⟩ := owns_forms ho'; replace ho' := hid ho'; have hE13 := hid ((hE.out.alloc (.cells #[.int .i64 0] 2)).grown hg' (fun g hg => (ho.out.lt g hg).1)); clear hg' hb')
                go_roundw
                case rel => exact ⟨k + 1, q9, c9, rfl, by go_num, by omega, by rw [hsI.out, List.flatMap_append, hcol.out]; exact ho'.out, hE13, hsA⟩
                case measure => simp [intOf]; omega
              · have hf : Hid (mfst L a b k = false) := by show _ = _; rw [hmf.out, decide_eq_false hY0, Bool.and_false]
                subst hXN
                have hs : Hid (msnd L a b k = false) := by show _ = _; rw [hms.out, decide_eq_false (show ¬ (N : Int) = 0 by omega), Bool.false_and]
                have hr0 : Hid (Q = false) := by show _ = _; rw [hr.out, mfAll_bad hlt hf.out hs.out]; rfl
                have g2 : (Y == (0 : Int)) = false := by simpa using hY0
                have g2d : decide (Y = (0 : Int)) = false := decide_eq_false hY0
                replace hY0 := hid hY0
                have hn1 : ((N : Int) == 0) = false := by simp; omega
                have hn2 : decide (N = 0) = false := by simp; omega
                have hn3 : ¬ N = 0 := by omega
                go_wp2_with fail
                go_ret
                exact ⟨ret_bool hr0.out.symm, E4.out.trans hE.out⟩
            · have hf : Hid (mfst L a b k = false) := by show _ = _; rw [hmf.out, decide_eq_false hXN, Bool.false_and]
              by_cases hX0 : X = 0
              · subst hX0
                by_cases hYN : Y = (N : Int)
                · have hs : Hid (msnd L a b k = true) := by show _ = _; rw [hms.out, decide_eq_true hYN]; rfl
                  have hcol : Hid (mcol L a b k = 1) := by show _ = _; rw [mcol, hf.out]; rfl
                  have hsA : Hid (mfAll L a b (k + 1) = true) := by show _ = _; rw [mfAll_succ, hz.out, hf.out, hs.out]; rfl
                  subst hYN
                  have hn1 : ((0 : Int) == (N : Int)) = false := by simp; omega
                  have hn4 : decide ((0 : Int) = (N : Int)) = false := by simp; omega
                  have hn2 : decide (N = 0) = false := by simp; omega
                  have hn3 : ¬ N = 0 := by omega
                  have hn5 : ¬ (0 : Int) = (N : Int) := by omega
                  go_wp2_with (at_builtin; refine wpList_append_own_at _ rfl _ _ 41 rfl w9.heap.size 2 i0 (.int .i64 0) 1 8 Try.underlying41 hi hz0 hz1 hz2 rfl (by omega) _ _ _ rfl (ho.out.alloc _) ⟨_, 0, none⟩ 1 1 [.int .i64 1] rfl rfl (cells_new1 _ _ _) (one_int1 _) (len_le (by omega) (by omega)) (by omega) (by simp; omega) ?_; intro v' w13 ho' hg' _ hb'; obtain ⟨q9, c9, rfl⟩ := owns_forms ho'; replace ho' := hid ho'; have hE13 := hid ((hE.out.alloc (.cells #[.int .i64 1] 2)).grown hg' (fun g hg => (ho.out.lt g hg).1)); clear hg' hb')
                  go_roundw
                  case rel => exact ⟨k + 1, q9, c9, rfl, by go_num, by omega, by rw [hsI.out, List.flatMap_append, hcol.out]; exact ho'.out, hE13, hsA⟩
                  case measure => simp [intOf]; omega
                · have hs : Hid (msnd L a b k = false) := by show _ = _; rw [hms.out, decide_eq_false hYN, Bool.and_false]
                  have hr0 : Hid (Q = false) := by show _ = _; rw [hr.out, mfAll_bad hlt hf.out hs.out]; rfl
                  have hn1 : ((0 : Int) == (N : Int)) = false := by simp; omega
                  have hn4 : decide ((0 : Int) = (N : Int)) = false := by simp; omega
                  have hn2 : decide (N = 0) = false := by simp; omega
                  have hn3 : ¬ N = 0 := by omega
                  have hn5 : ¬ (0 : Int) = (N : Int) := by omega
                  have g4 : (Y == (N : Int)) = false := by simpa using hYN
                  have g4d : decide (Y = (N : Int)) = false := decide_eq_false hYN
                  replace hYN := hid hYN
                  go_wp2_with fail
                  go_ret
                  exact ⟨ret_bool hr0.out.symm, E4.out.trans hE.out⟩
              · have hs : Hid (msnd L a b k = false) := by show _ = _; rw [hms.out, decide_eq_false hX0, Bool.false_and]
                have hr0 : Hid (Q = false) := by show _ = _; rw [hr.out, mfAll_bad hlt hf.out hs.out]; rfl
                have g1 : (X == (N : Int)) = false := by simpa using hXN
                have g1d : decide (X = (N : Int)) = false := decide_eq_false hXN
                have g3 : (X == (0 : Int)) = false := by simpa using hX0
                have g3d : decide (X = (0 : Int)) = false := decide_eq_false hX0
                replace hX0 := hid hX0
                replace hXN := hid hXN
                go_wp2_with fail
                go_ret
                exact ⟨ret_bool hr0.out.symm, E4.out.trans hE.out⟩
          · have hltI : ¬ (k : Int) < (m : Int) := by omega
            obtain rfl : k = m := by omega
            rw [hz.out, Bool.true_and] at hr
            have sI := hid (SlT.of_owns (l := mcL L a b k) enc1_len (mcL_len L a b k) ho.out)
            rename World => wI
            replace r2 := hid (r2.out.ext hE.out)
            have hEw := hid (E4.out.trans hE.out)
            clear ho hz
            go_wp2_with fail
            refine (l03Bits_any q n c l _ (h.ext hEw.out) hn vL.out).mono ?_
            rintro e w14 ⟨B4, rfl, o4, E14⟩
            have b4 := hid (Bits.of o4)
            replace r2 := hid (r2.out.ext E14)
            replace sI := hid (sI.out.ext E14)
            replace hEw := hid (hEw.out.trans E14)
            clear o4 E14
            have hcb := cellsP_bd a vA2.out
            go_wp2_with fail
            refine (l33CellsP_any qa na ca a _ (ha.ext hEw.out) (by omega) vA2.out).mono ?_
            rintro e x1 ⟨q11, c11, rfl, t11, E⟩
            replace r2 := hid (r2.out.ext E)
            replace sI := hid (sI.out.ext E)
            replace b4 := hid (b4.out.ext E)
            replace hEw := hid (hEw.out.trans E)
            replace t11 := hid t11
            clear E
            go_wp2_with fail
            refine (l33Count_any B4 6400 (gL l) q11 _ c11 (cellsP a) _ b4.out t11.out (by omega) (cells_on vA2.out)).mono ?_
            rintro e x2 ⟨rfl, E⟩
            replace r2 := hid (r2.out.ext E)
            replace sI := hid (sI.out.ext E)
            replace b4 := hid (b4.out.ext E)
            replace hEw := hid (hEw.out.trans E)
            clear E t11
            go_wp2_with fail
            refine (l33CellsP_any qa na ca a _ (ha.ext hEw.out) (by omega) vA2.out).mono ?_
            rintro e x3 ⟨q12, c12, rfl, t11, E⟩
            replace r2 := hid (r2.out.ext E)
            replace sI := hid (sI.out.ext E)
            replace b4 := hid (b4.out.ext E)
            replace hEw := hid (hEw.out.trans E)
            replace t11 := hid t11
            clear E hcb
            obtain ⟨Xa, hXa⟩ : ∃ X, X = cntP (gL l) (cellsP a) := ⟨_, rfl⟩
            obtain ⟨Na, hNa⟩ : ∃ N, N = (cellsP a).length := ⟨_, rfl⟩
            rw [← hXa, ← hNa] at hr ⊢
            replace hXa := hid hXa
            replace hNa := hid hNa
            by_cases hca : Xa = Na
            · subst hca
              have hr := hid (show Q = _ from hr.out.trans (by rw [decide_eq_true rfl, Bool.true_and]))
              have hcb := cellsP_bd b vB2.out
              go_wp2_with fail
              refine (l33CellsP_any qb nb cb b _ (hb.ext hEw.out) (by omega) vB2.out).mono ?_
              rintro e x1 ⟨q11, c11, rfl, t11, E⟩
              replace r2 := hid (r2.out.ext E)
              replace sI := hid (sI.out.ext E)
              replace b4 := hid (b4.out.ext E)
              replace hEw := hid (hEw.out.trans E)
              replace t11 := hid t11
              clear E
              go_wp2_with fail
              refine (l33Count_any B4 6400 (gL l) q11 _ c11 (cellsP b) _ b4.out t11.out (by omega) (cells_on vB2.out)).mono ?_
              rintro e x2 ⟨rfl, E⟩
              replace r2 := hid (r2.out.ext E)
              replace sI := hid (sI.out.ext E)
              replace b4 := hid (b4.out.ext E)
              replace hEw := hid (hEw.out.trans E)
              clear E t11
              go_wp2_with fail
              refine (l33CellsP_any qb nb cb b _ (hb.ext hEw.out) (by omega) vB2.out).mono ?_
              rintro e x3 ⟨q12, c12, rfl, t11, E⟩
              replace r2 := hid (r2.out.ext E)
              replace sI := hid (sI.out.ext E)
              replace b4 := hid (b4.out.ext E)
              replace hEw := hid (hEw.out.trans E)
              replace t11 := hid t11
              clear E hcb
              obtain ⟨Xb, hXb⟩ : ∃ X, X = cntP (gL l) (cellsP b) := ⟨_, rfl⟩
              obtain ⟨Nb, hNb⟩ : ∃ N, N = (cellsP b).length := ⟨_, rfl⟩
              rw [← hXb, ← hNb] at hr ⊢
              replace hXb := hid hXb
              replace hNb := hid hNb
              by_cases hcb : Xb = Nb
              · subst hcb
                have hr := hid (show Q = _ from hr.out.trans (by rw [decide_eq_true rfl, Bool.true_and]))
                have hz2 : Hid (mfSep T L a b k 0 = true) := rfl
                go_wp2_with fail
                go_loopw [20] (fun iv wr => ∃ i : Nat, iv = .int .i64 i ∧ i ≤ k ∧ Hid (Ext x3 wr) ∧ Hid (mfSep T L a b k i = true)) (fun i _ => k - (intOf i).toNat)
                case atStart => exact ⟨0, by go_num, by omega, Ext.refl _, hz2⟩
                case round =>
                  clear hz2
                  obtain ⟨i, rfl, hi, hE2, hz2⟩ := hrel
                  by_cases hli : i < k
                  · have hliI : (i : Int) < (k : Int) := by omega
                    obtain ⟨b5, off5, q7, n7, c7, row, e9, hb5, hrow, z5, t5⟩ := r2.out.get hli
                    subst e9
                    have hn7 : n7 = k := by rw [← t5.length]; exact hrows.out row (List.mem_of_getElem? hrow.out)
                    subst hn7
                    have zk5 := hid (fun V (hV : Ext x3 V) => (hV.cells _ _ hb5).trans z5)
                    have lk5 := hid (fun V (hV : Ext x3 V) => Nat.lt_of_lt_of_le hb5 hV.le)
                    have hst := hid (mfSep_succ T L a b n7 i)
                    rw [hz2.out, Bool.true_and] at hst
                    have hz3 : Hid (mfRow T L a b i 0 = true) := rfl
                    replace t5 := hid t5
                    clear z5 hb5
                    go_wp2_with fail
                    go_loopw [21] (fun iv wr => ∃ j : Nat, iv = .int .i64 j ∧ j ≤ n7 ∧ Hid (Ext x3 wr) ∧ Hid (mfRow T L a b i j = true)) (fun i _ => n7 - (intOf i).toNat)
                    case atStart => exact ⟨0, by go_num, by omega, hE2, hz3⟩
                    case round =>
                      clear hz3 hE2
                      obtain ⟨j, rfl, hj9, hE2, hz3⟩ := hrel
                      by_cases hlj : j < n7
                      · have hljI : (j : Int) < (n7 : Int) := by omega
                        obtain ⟨b6, o6, f, e9, hb6, hf, z6⟩ := (t5.out.ext hE2.out).flag hlj
                        subst e9
                        have z5 := zk5.out _ hE2.out
                        have hb5 := lk5.out _ hE2.out
                        have hed : Hid (edg T i j = f) := edg_of hrow.out hf.out
                        have hst3 := hid (mfRow_succ T L a b i j)
                        rw [hz3.out, hed.out, Bool.true_and] at hst3
                        cases f with
                        | false =>
                          go_wp2_with fail
                          refine wp_region_later (by kernel_rfl) (by kernel_rfl) ?_
                          repeat (go_big_quiet_step (fail))
                          refine wpQuiet_nil ?_
                          rintro w13 ⟨⟨_, E13⟩, rfl⟩
                          have hE13 := hid (hE2.out.trans E13)
                          clear z6 hb6 E13 z5 hb5
                          go_wp2_with fail
                          go_roundw
                          case rel => exact ⟨j + 1, by go_num, by omega, hE13, hid (hst3.out.trans rfl)⟩
                          case measure => simp [intOf]; omega
                        | true =>
                          obtain ⟨bI, oI, x, e9, hbI, hx, zx⟩ := (sI.out.ext hE2.out).int hli
                          subst e9
                          obtain ⟨bI', oI', y, e9, _, hy, zy⟩ := (sI.out.ext hE2.out).int hlj
                          cases e9
                          have hxv : x = mcol L a b i := by have := hx.out; rw [mcL_at hli] at this; exact (Option.some.inj this).symm
                          have hyv : y = mcol L a b j := by have := hy.out; rw [mcL_at hlj] at this; exact (Option.some.inj this).symm
                          rw [← mcol_eq, ← hxv, ← hyv] at hst3
                          by_cases hxy : x = y
                          · have hmm : mfst L a b i = mfst L a b j := by
                              have h9 := mcol_eq L a b i j
                              rw [← hxv, ← hyv, decide_eq_true hxy] at h9
                              exact eq_of_beq h9.symm
                            have hr0 : Hid (Q = false) := by show _ = _; rw [hr.out, mfSep_bad hli hlj hed.out hmm]; simp
                            subst hxy
                            replace hxv := hid hxv
                            replace hyv := hid hyv
                            replace hmm := hid hmm
                            clear hst3
                            go_wp2_with fail
                            refine wp_region_later (by kernel_rfl) (by kernel_rfl) ?_
                            repeat (go_big_quiet_step (fail))
                            refine wpQuiet_nil ?_
                            rintro w13 ⟨⟨_, E13⟩, rfl⟩
                            have hE13 := hid (hE2.out.trans E13)
                            clear z6 hb6 E13 zx zy hbI z5 hb5
                            go_wp2_with fail
                            go_ret
                            exact ⟨ret_bool hr0.out.symm, hEw.out.trans hE13.out⟩
                          · have hxe : (x == y) = false := by simpa using hxy
                            have hxd : decide (x = y) = false := decide_eq_false hxy
                            rw [hxd] at hst3
                            replace hst3 := hid hst3.out
                            replace hxv := hid hxv
                            replace hyv := hid hyv
                            replace hxy := hid hxy
                            go_wp2_with fail
                            refine wp_region_later (by kernel_rfl) (by kernel_rfl) ?_
                            repeat (go_big_quiet_step (fail))
                            refine wpQuiet_nil ?_
                            rintro w13 ⟨⟨_, E13⟩, rfl⟩
                            have hE13 := hid (hE2.out.trans E13)
                            clear z6 hb6 E13 zx zy hbI z5 hb5
                            go_wp2_with fail
                            go_roundw
                            case rel => exact ⟨j + 1, by go_num, by omega, hE13, hid (hst3.out.trans rfl)⟩
                            case measure => simp [intOf]; omega
                      · have hljI : ¬ (j : Int) < (n7 : Int) := by omega
                        obtain rfl : j = n7 := by omega
                        rw [hz3.out] at hst
                        go_wp2_with fail
                        go_roundw
                        case rel => exact ⟨i + 1, by go_num, by omega, hE2, hst⟩
                        case measure => simp [intOf]; omega
                  · have hliI : ¬ (i : Int) < (k : Int) := by omega
                    obtain rfl : i = k := by omega
                    have hr0 : Hid (Q = true) := by show _ = _; rw [hr.out, hz2.out]; simp
                    go_wp2_with fail
                    go_ret
                    exact ⟨ret_bool hr0.out.symm, hEw.out.trans hE2.out⟩
              · have hr0 : Hid (Q = false) := by show _ = _; rw [hr.out, decide_eq_false hcb]; rfl
                have g1 : ((Xb : Int) == (Nb : Int)) = false := by simp; omega
                have g2 : ((Xb : Int) != (Nb : Int)) = true := by simp; omega
                have g3 : decide (Xb = Nb) = false := decide_eq_false hcb
                have g4 : ¬ (Xb : Int) = (Nb : Int) := by omega
                go_wp2_with fail
                go_ret
                exact ⟨ret_bool hr0.out.symm, hEw.out⟩
            · have hr0 : Hid (Q = false) := by show _ = _; rw [hr.out, decide_eq_false hca]; rfl
              have g1 : ((Xa : Int) == (Na : Int)) = false := by simp; omega
              have g2 : ((Xa : Int) != (Na : Int)) = true := by simp; omega
              have g3 : decide (Xa = Na) = false := decide_eq_false hca
              have g4 : ¬ (Xa : Int) = (Na : Int) := by omega
              go_wp2_with fail
              go_ret
              exact ⟨ret_bool hr0.out.symm, hEw.out⟩
  · have hr0 : Hid (Q = false) := by show _ = _; rw [hr.out, decide_eq_false h0]; rfl
    have hB3 : (ptC l s != 0) = true := by simpa using h0
    obtain ⟨C, hC⟩ : ∃ C, C = ptC l s := ⟨_, rfl⟩
    rw [← hC] at hB3 h0
    clear ka kb hr
    go_enter Try.func43, Try.ntmps43
    go_wp2_with fail
    refine hp.out.mono ?_
    rintro e w1 ⟨q1, c1, q2, c2, rfl, r1, r2, E1⟩
    rw [← hC]
    replace hC := hid hC
    replace r1 := hid r1
    replace r2 := hid r2
    go_wp2_with fail
    go_ret
    exact ⟨ret_bool hr0.out.symm, E1⟩
set_option maxRecDepth 100000 in
set_option maxHeartbeats 4000000 in
theorem lawIsMaskPair (q0 : Option Addr) (n0 c0 : Nat) (l0 : List Q4) (a1 : Int) (q2 : Option Addr) (n2 c2 : Nat) (l2 : List Q4) (q3 : Option Addr) (n3 c3 : Nat) (l3 : List Q4) (s0 : Bool) (w : World) (h0 : SlT enc4 4 w q0 n0 l0) (m0 : n0 ≤ maxLen) (h2 : SlT enc4 4 w q2 n2 l2) (m2 : n2 ≤ maxLen) (h3 : SlT enc4 4 w q3 n3 l3) (m3 : n3 ≤ maxLen) 
    (hS : Hid (n0 ≤ 1048576 → n2 ≤ 1048576 → n3 ≤ 1048576 → ∀ (W : World) (q0 : Option Addr) (c0 : Nat) (q2 : Option Addr) (c2 : Nat) (q3 : Option Addr) (c3 : Nat), SlT enc4 4 W q0 n0 l0 → SlT enc4 4 W q2 n2 l2 → SlT enc4 4 W q3 n3 l3 → Calls Try.prog 43 #[.slice q0 n0 c0, .int .i64 a1, .slice q2 n2 c2, .slice q3 n3 c3] W fun e w' => e = .returned (.bool s0) ∧ Ext W w'))
    (hI : Hid (n0 ≤ 1048576 → n2 ≤ 1048576 → n3 ≤ 1048576 → ∀ (W : World) (q0 : Option Addr) (c0 : Nat) (q2 : Option Addr) (c2 : Nat) (q3 : Option Addr) (c3 : Nat), SlT enc4 4 W q0 n0 l0 → SlT enc4 4 W q2 n2 l2 → SlT enc4 4 W q3 n3 l3 → Calls Try.prog 36 #[.slice q0 n0 c0, .int .i64 a1, .slice q2 n2 c2, .slice q3 n3 c3] W fun e w' => e = .returned (.bool s0) ∧ Ext W w')) :
    Calls Try.prog 9 #[.slice q0 n0 c0, .int .i64 a1, .slice q2 n2 c2, .slice q3 n3 c3] w fun e w' => e = .returned (.bool true) ∧ Ext w w' := by
  have e0 := hid h0.length
  have e2 := hid h2.length
  have e3 := hid h3.length
  unfold maxLen at m0
  unfold maxLen at m2
  unfold maxLen at m3
  by_cases x0 : 1048576 < (n0 : Int)
  · go_enter Try.func9, Try.ntmps9
    go_wp2_with fail
    refine (szRectS_any q0 n0 c0 _ _ (by omega) (by omega) (by omega)).mono ?_
    rintro e w' ⟨rfl, rfl⟩
    rw [if_pos (by omega)]
    go_wp2_with fail
    go_ret
    exact ⟨rfl, Ext.refl _⟩
  by_cases x1 : (1048576 - (n0 : Int)) < (n2 : Int)
  · go_enter Try.func9, Try.ntmps9
    go_wp2_with fail
    refine (szRectS_any q0 n0 c0 _ _ (by omega) (by omega) (by omega)).mono ?_
    rintro e w' ⟨rfl, rfl⟩
    rw [if_neg (by omega)]
    go_wp2_with fail
    refine (szRectS_any q2 n2 c2 _ _ (by omega) (by omega) (by omega)).mono ?_
    rintro e w' ⟨rfl, rfl⟩
    rw [if_pos (by omega)]
    go_wp2_with fail
    go_ret
    exact ⟨rfl, Ext.refl _⟩
  by_cases x2 : ((1048576 - (n0 : Int)) - (n2 : Int)) < (n3 : Int)
  · go_enter Try.func9, Try.ntmps9
    go_wp2_with fail
    refine (szRectS_any q0 n0 c0 _ _ (by omega) (by omega) (by omega)).mono ?_
    rintro e w' ⟨rfl, rfl⟩
    rw [if_neg (by omega)]
    go_wp2_with fail
    refine (szRectS_any q2 n2 c2 _ _ (by omega) (by omega) (by omega)).mono ?_
    rintro e w' ⟨rfl, rfl⟩
    rw [if_neg (by omega)]
    go_wp2_with fail
    refine (szRectS_any q3 n3 c3 _ _ (by omega) (by omega) (by omega)).mono ?_
    rintro e w' ⟨rfl, rfl⟩
    rw [if_pos (by omega)]
    go_wp2_with fail
    go_ret
    exact ⟨rfl, Ext.refl _⟩
  go_enter Try.func9, Try.ntmps9
  go_wp2_with fail
  refine (szRectS_any q0 n0 c0 _ _ (by omega) (by omega) (by omega)).mono ?_
  rintro e w' ⟨rfl, rfl⟩
  rw [if_neg (by omega)]
  go_wp2_with fail
  refine (szRectS_any q2 n2 c2 _ _ (by omega) (by omega) (by omega)).mono ?_
  rintro e w' ⟨rfl, rfl⟩
  rw [if_neg (by omega)]
  go_wp2_with fail
  refine (szRectS_any q3 n3 c3 _ _ (by omega) (by omega) (by omega)).mono ?_
  rintro e w' ⟨rfl, rfl⟩
  rw [if_neg (by omega)]
  have y0 := x0
  have y1 := x1
  have y2 := x2
  have zsum : (n0 : Int) + (n2 : Int) + (n3 : Int) ≤ 1048576 := by omega
  replace x0 : n0 ≤ 1048576 := by omega
  replace x1 : n2 ≤ 1048576 := by omega
  replace x2 : n3 ≤ 1048576 := by omega
  clear y0
  clear y1
  clear y2
  have F := Ext.refl w
  go_wp2_with fail
  refine (toRectS_any _ n0 _ l0 _ (h0.ext F) (by omega)).mono ?_
  rintro e w1 ⟨t0, rfl, ot0, E⟩
  replace F := F.trans E
  clear E
  go_wp2_with fail
  refine (toRectS_any _ n2 _ l2 _ (h2.ext F) (by omega)).mono ?_
  rintro e w2 ⟨t2, rfl, ot2, E⟩
  replace ot0 := owns_ext ot0 E
  replace F := F.trans E
  clear E
  go_wp2_with fail
  refine (toRectS_any _ n3 _ l3 _ (h3.ext F) (by omega)).mono ?_
  rintro e w3 ⟨t3, rfl, ot3, E⟩
  replace ot0 := owns_ext ot0 E
  replace ot2 := owns_ext ot2 E
  replace F := F.trans E
  clear E
  go_wp2_with fail
  refine (hS.out x0 x1 x2 _ _ _ _ _ _ _ (SlT.of_owns enc4_len e0.out ot0) (SlT.of_owns enc4_len e2.out ot2) (SlT.of_owns enc4_len e3.out ot3)).mono ?_
  rintro e w4 ⟨rfl, E⟩
  replace F := F.trans E
  clear E ot0 ot2 ot3
  have S := Ext.refl w4
  go_wp2_with fail
  refine (toRectS_any _ n0 _ l0 _ (h0.ext F) (by omega)).mono ?_
  rintro e w5 ⟨x0q, rfl, ox0, E⟩
  replace F := F.trans E
  replace S := S.trans E
  have zx0 := E.le
  clear E
  go_wp2_with fail
  refine (toRectS_any _ n2 _ l2 _ (h2.ext F) (by omega)).mono ?_
  rintro e w6 ⟨x2q, rfl, ox2, E⟩
  replace F := F.trans E
  replace S := S.trans E
  replace ox0 := owns_ext ox0 E
  have zx2 := E.le
  clear E
  go_wp2_with fail
  refine (toRectS_any _ n3 _ l3 _ (h3.ext F) (by omega)).mono ?_
  rintro e w7 ⟨x3q, rfl, ox3, E⟩
  replace F := F.trans E
  replace S := S.trans E
  replace ox0 := owns_ext ox0 E
  replace ox2 := owns_ext ox2 E
  have zx3 := E.le
  clear E
  go_wp2_with fail
  refine (hI.out x0 x1 x2 _ _ _ _ _ _ _ (SlT.of_owns enc4_len e0.out ox0) (SlT.of_owns enc4_len e2.out ox2) (SlT.of_owns enc4_len e3.out ox3)).mono ?_
  rintro e w8 ⟨rfl, E⟩
  have zI := E.le
  have zo0 := owns_ge ox0
  have zo2 := owns_ge ox2
  have zo3 := owns_ge ox3
  replace F := F.trans E
  replace S := S.trans E
  replace ox0 := owns_ext ox0 E
  replace ox2 := owns_ext ox2 E
  replace ox3 := owns_ext ox3 E
  clear E
  go_wp2_with fail
  refine (toRectS_any _ n0 _ l0 _ (h0.ext F) (by omega)).mono ?_
  rintro e w9 ⟨y0q, rfl, oy0, E⟩
  replace F := F.trans E
  replace S := S.trans E
  replace ox0 := owns_ext ox0 E
  replace ox2 := owns_ext ox2 E
  replace ox3 := owns_ext ox3 E
  clear E
  go_wp2_with fail
  refine (eqRectS_same _ _ _ _ _ l0 _ (SlT.of_owns enc4_len e0.out ox0) (SlT.of_owns enc4_len e0.out oy0) (by omega)).mono ?_
  rintro e w10 ⟨rfl, E⟩
  replace F := F.trans E
  replace S := S.trans E
  replace ox0 := owns_ext ox0 E
  replace ox2 := owns_ext ox2 E
  replace ox3 := owns_ext ox3 E
  clear E oy0
  go_wp2_with fail
  refine (toRectS_any _ n2 _ l2 _ (h2.ext F) (by omega)).mono ?_
  rintro e w11 ⟨y2q, rfl, oy2, E⟩
  replace F := F.trans E
  replace S := S.trans E
  replace ox0 := owns_ext ox0 E
  replace ox2 := owns_ext ox2 E
  replace ox3 := owns_ext ox3 E
  clear E
  go_wp2_with fail
  refine (eqRectS_same _ _ _ _ _ l2 _ (SlT.of_owns enc4_len e2.out ox2) (SlT.of_owns enc4_len e2.out oy2) (by omega)).mono ?_
  rintro e w12 ⟨rfl, E⟩
  replace F := F.trans E
  replace S := S.trans E
  replace ox0 := owns_ext ox0 E
  replace ox2 := owns_ext ox2 E
  replace ox3 := owns_ext ox3 E
  clear E oy2
  go_wp2_with fail
  refine (toRectS_any _ n3 _ l3 _ (h3.ext F) (by omega)).mono ?_
  rintro e w13 ⟨y3q, rfl, oy3, E⟩
  replace F := F.trans E
  replace S := S.trans E
  replace ox0 := owns_ext ox0 E
  replace ox2 := owns_ext ox2 E
  replace ox3 := owns_ext ox3 E
  clear E
  go_wp2_with fail
  refine (eqRectS_same _ _ _ _ _ l3 _ (SlT.of_owns enc4_len e3.out ox3) (SlT.of_owns enc4_len e3.out oy3) (by omega)).mono ?_
  rintro e w14 ⟨rfl, E⟩
  replace F := F.trans E
  replace S := S.trans E
  replace ox0 := owns_ext ox0 E
  replace ox2 := owns_ext ox2 E
  replace ox3 := owns_ext ox3 E
  clear E oy3
  go_wp2_with fail
  go_ret
  exact ⟨rfl, F⟩
theorem exactIsMaskPair_any (q : Option Addr) (n c : Nat) (l : List Q4) (s : Int) (qa : Option Addr) (na ca : Nat) (a : List Q4) (qb : Option Addr) (nb cb : Nat) (b : List Q4) (w : World) (h : SlT enc4 4 w q n l) (hm : n ≤ maxLen) (ha : SlT enc4 4 w qa na a) (hma : na ≤ maxLen) (hb : SlT enc4 4 w qb nb b) (hmb : nb ≤ maxLen) :
    Calls Try.prog 9 #[.slice q n c, .int .i64 s, .slice qa na ca, .slice qb nb cb] w fun e w' => e = .returned (.bool true) ∧ Ext w w' :=
  lawIsMaskPair q n c l s qa na ca a qb nb cb b (mpV l s a b) w h hm ha hma hb hmb (hid fun hn hna hnb W q c qa ca qb cb hW hWa hWb => by have := specIsMaskPair_any q qa qb n c na ca nb cb l a b s W hW hWa hWb hn hna hnb; rwa [mp_eq] at this) (hid fun hn hna hnb W q c qa ca qb cb hW hWa hWb => IsMaskPair_any q qa qb n c na ca nb cb l a b s W hW hWa hWb hn hna hnb)
end Go.Proofs.Ytaigndaabmelhaa
