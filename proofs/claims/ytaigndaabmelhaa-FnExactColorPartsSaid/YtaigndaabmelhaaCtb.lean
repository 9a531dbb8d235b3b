/- Contract of conflictTable (program). Condition: at most 12 parts of valid rectangles, a spacing from 1 to 8. -/
import Derived.Test.YtaigndaabmelhaaCfl
namespace Go.Proofs.Ytaigndaabmelhaa
open Go.RowKit

/-- Parts i and k are in conflict. -/
def tbB (L : List (List Q4)) (s : Int) (i k : Nat) : Bool := !decide (i = k) && confL (L.getD i []) (L.getD k []) s
def tabR (L : List (List Q4)) (s : Int) (i m : Nat) : List Bool := (List.range m).map fun k => tbB L s i k
def tabN (L : List (List Q4)) (s : Int) (m : Nat) : List (List Bool) := (List.range m).map fun i => tabR L s i L.length
def tabL (L : List (List Q4)) (s : Int) : List (List Bool) := tabN L s L.length
theorem tabR_len (L : List (List Q4)) (s : Int) (i m : Nat) : (tabR L s i m).length = m := by simp [tabR]
theorem tabN_len (L : List (List Q4)) (s : Int) (m : Nat) : (tabN L s m).length = m := by simp [tabN]
theorem tabL_len (L : List (List Q4)) (s : Int) : (tabL L s).length = L.length := tabN_len _ _ _
theorem tabR_succ (L : List (List Q4)) (s : Int) (i m : Nat) : tabR L s i (m + 1) = tabR L s i m ++ [tbB L s i m] := by simp [tabR, List.range_succ]
theorem tabN_succ (L : List (List Q4)) (s : Int) (m : Nat) : tabN L s (m + 1) = tabN L s m ++ [tabR L s m L.length] := by simp [tabN, List.range_succ]
def flB (T : List (List Bool)) : List (List Value) := T.map (·.flatMap encb)
theorem flB_snoc (T : List (List Bool)) (r : List Bool) : flB (T ++ [r]) = flB T ++ [r.flatMap encb] := by simp [flB]
def TabB (T : List (List Bool)) (w : World) (e : Ending) (w' : World) : Prop := ∃ (q : Option Addr) (c : Nat) (H : List Hd), e = .returned (.slice q T.length c) ∧ OwnG 79 4 1 w.heap.size w' q T.length c H (flB T) ∧ Ext w w'
set_option maxRecDepth 100000 in
set_option maxHeartbeats 4000000 in
theorem conflictTable_any (q : Option Addr) (n c : Nat) (L : List (List Q4)) (s : Int) (w : World) (h : SlR enc4 4 w q n L) (hn : n ≤ 1000) (hv : ∀ l ∈ L, l.length ≤ 3200 ∧ ∀ r ∈ l, vR r = true) (hs0 : 1 ≤ s) (hs8 : s ≤ 8) :
    Calls Try.prog 73 #[.slice q n c, .int .i64 s] w (TabB (tabL L s) w) := by
  have hl := hid h.length
  replace hv := hid hv
  obtain ⟨i0, hi, hz0, hz1, hz2⟩ := info_parts info_BB
  obtain ⟨j0, hj, hy0, hy1, hy2⟩ := info_parts info_Bool
  go_enter Try.func73, Try.ntmps73
  go_upto_region 2 with (fail)
  have ho0 : (w.alloc (.cells #[] 79)).ownsRow w.heap.size 79 1 (.slice (some ⟨w.heap.size, 0, none⟩) 0 0) 0 [] := by
    have := World.ownsRow_made (base := w.heap.size) (e := 79) (size := 1) w #[] 0 (by simp) (by simp [maxLen]) (by simp)
    exact this
  generalize hW : w.alloc _ = W0 at ho0 ⊢
  have E0 : Ext w W0 := by rw [← hW]; exact (Ext.refl _).alloc _
  clear hW
  replace ho0 := hid ho0
  replace E0 := hid E0
  go_wp2
  go_loopw [5, 14] (fun vo iv wo => ∃ (k : Nat) (qo : Option Addr) (co : Nat) (H : List Hd), k ≤ n ∧ iv = .int .i64 k ∧ vo = .slice qo k co ∧ Hid (OwnG 79 4 1 w.heap.size wo qo k co H (flB (tabN L s k))) ∧ Hid (Ext w wo)) (fun _ i _ => n - (intOf i).toNat)
  case atStart => exact ⟨0, _, _, [], by omega, rfl, rfl, OwnG.start ho0.out, E0⟩
  case round =>
    clear ho0 E0
    obtain ⟨k, qo, co, H, hk, rfl, rfl, ho, hE⟩ := hrel
    rename World => wo
    by_cases hlt : k < n
    · have hltI : (k : Int) < (n : Int) := by omega
      obtain ⟨b, off, q1, n1, c1, l1, rfl, hb, hl1, z, t1⟩ := (h.ext hE.out).get hlt
      have t1 := hid t1
      have g1 := hid (hv.out l1 (List.mem_of_getElem? hl1.out))
      go_upto_region 6 with (fail)
      have hr0 : (wo.alloc (.cells #[] 4)).ownsRow wo.heap.size 4 1 (.slice (some ⟨wo.heap.size, 0, none⟩) 0 0) 0 [] := by
        have := World.ownsRow_made (base := wo.heap.size) (e := 4) (size := 1) wo #[] 0 (by simp) (by simp [maxLen]) (by simp)
        exact this
      generalize hW : wo.alloc _ = W1 at hr0 ⊢
      have E1 : Ext wo W1 := by rw [← hW]; exact (Ext.refl _).alloc _
      clear hW z hb
      replace hr0 := hid hr0
      replace E1 := hid E1
      go_wp2
      go_loopw [8, 22] (fun vr iv wr => ∃ (m : Nat) (qr : Option Addr) (cr : Nat), m ≤ n ∧ iv = .int .i64 m ∧ vr = .slice qr m cr ∧ Hid (wr.ownsRow wo.heap.size 4 1 (.slice qr m cr) m ((tabR L s k m).flatMap encb)) ∧ Hid (Ext wo wr)) (fun _ i _ => n - (intOf i).toNat)
      case atStart => exact ⟨0, _, _, by omega, rfl, rfl, hr0, E1⟩
      case round =>
        clear hr0 E1
        obtain ⟨m, qr, cr, hm, rfl, rfl, hrow, hE2⟩ := hrel
        by_cases hltm : m < n
        · have hltmI : (m : Int) < (n : Int) := by omega
          obtain ⟨b', off', q2, n2, c2, l2, e9, hb, hl2, z, t2⟩ := (h.ext (hE.out.trans hE2.out)).get hltm
          cases e9
          have t2 := hid t2
          have g2 := hid (hv.out l2 (List.mem_of_getElem? hl2.out))
          have hEw := hid (hE.out.trans hE2.out)
          by_cases hkm : k = m
          · subst hkm
            have hval : Hid (tabR L s k (k + 1) = tabR L s k k ++ [false]) := by show _ = _; rw [tabR_succ, tbB]; simp
            have hsz := hE2.out.le
            go_wp2_with (at_builtin; refine wpList_append_own_at _ rfl _ _ 79 rfl wo.heap.size 4 j0 (.bool false) 1 1 Try.underlying79 hj hy0 hy1 hy2 rfl (by omega) _ _ _ rfl (hrow.out.alloc _) ⟨_, 0, none⟩ 1 1 [.bool false] rfl rfl (cells_new1 _ _ _) (one_b _) (len_le (by omega) (by omega)) (by omega) (by simp; omega) ?_; intro v' w9 ho' hg' _ hb'; obtain ⟨qa, ca, rfl⟩ := owns_forms ho'; replace ho' := hid ho'; replace hg' := hid hg')
            go_roundw
            case rel => exact ⟨k + 1, qa, ca, by omega, by go_num, rfl, by rw [hval.out, List.flatMap_append]; exact ho'.out, (hE2.out.alloc _).grown hg'.out (fun g hg => (hrow.out.lt g hg).1)⟩
            case measure => simp [intOf]; omega
          · have hkmI : ((k : Int) != (m : Int)) = true := by simp; omega
            have hval : Hid (tabR L s k (m + 1) = tabR L s k m ++ [confL l1 l2 s]) := by
              show _ = _
              rw [tabR_succ, tbB, getD_of hl1.out, getD_of hl2.out, decide_eq_false hkm]; rfl
            have hcf := hid (conflict_any q1 q2 n1 n2 c1 c2 l1 l2 s _ (t1.out.ext hE2.out) t2.out (by have := t1.out.length; have := g1.out.1; omega) (by have := t2.out.length; have := g2.out.1; omega) g1.out.2 g2.out.2 hs0 hs8)
            go_wp2_with fail
            refine hcf.out.mono ?_
            rintro e w5 ⟨rfl, E5⟩
            have hrow5 := hid (owns_ext hrow.out E5)
            have hE5 := hid (hE2.out.trans E5)
            have hsz := hE5.out.le
            obtain ⟨cv, hcv⟩ : ∃ cv, cv = confL l1 l2 s := ⟨_, rfl⟩
            rw [← hcv] at hval ⊢
            clear hcf E5 hcv
            go_wp2_with (at_builtin; refine wpList_append_own_at _ rfl _ _ 79 rfl wo.heap.size 4 j0 (.bool false) 1 1 Try.underlying79 hj hy0 hy1 hy2 rfl (by omega) _ _ _ rfl (hrow5.out.alloc _) ⟨_, 0, none⟩ 1 1 [.bool cv] rfl rfl (cells_new1 _ _ _) (one_b _) (len_le (by omega) (by omega)) (by omega) (by simp; omega) ?_; intro v' w9 ho' hg' _ hb'; obtain ⟨qa, ca, rfl⟩ := owns_forms ho'; replace ho' := hid ho'; replace hg' := hid hg')
            go_roundw
            case rel => exact ⟨m + 1, qa, ca, by omega, by go_num, rfl, by rw [hval.out, List.flatMap_append]; exact ho'.out, (hE5.out.alloc _).grown hg'.out (fun g hg => (hrow5.out.lt g hg).1)⟩
            case measure => simp [intOf]; omega
        · have hltmI : ¬ (m : Int) < (n : Int) := by omega
          obtain rfl : m = n := by omega
          have hval : Hid (tabN L s (k + 1) = tabN L s k ++ [tabR L s k m]) := by show _ = _; rw [tabN_succ, hl.out]
          have hEw := hid (hE.out.trans hE2.out)
          have hsz := hE.out.le
          have hsz2 := hE2.out.le
          have htop := hid (owns_ext ho.out.top hE2.out)
          go_wp2_with (at_builtin; refine wpList_append_own_at _ rfl _ _ 76 rfl w.heap.size 79 i0 (.slice none 0 0) 1 24 Try.underlying76 hi hz0 hz1 hz2 rfl (by omega) _ _ _ rfl (htop.out.alloc _) ⟨_, 0, none⟩ 1 1 [.slice qr m cr] rfl rfl (cells_new1 _ _ _) (one_hd1 _ _ _) (len_le (by omega) (by omega)) (by omega) (by simp; omega) ?_; intro v' w9 ho' hg' _ hb'; obtain ⟨qa, ca, rfl⟩ := owns_forms ho'; replace ho' := hid ho'; replace hg' := hid hg'; replace hb' := hid hb')
          go_roundw
          case rel => exact ⟨k + 1, qa, ca, _, by omega, by go_num, rfl, by rw [hval.out, flB_snoc]; exact ho.out.more hE.out.le hrow.out hE2.out _ ho'.out hg'.out hb'.out, (hEw.out.alloc _).grown hg'.out (fun g hg => (htop.out.lt g hg).1)⟩
          case measure => simp [intOf]; omega
    · have hltI : ¬ (k : Int) < (n : Int) := by omega
      obtain rfl : k = n := by omega
      have hT : Hid ((tabL L s).length = k) := (tabL_len L s).trans hl.out
      have hT2 : Hid (tabN L s k = tabL L s) := by show _ = _; rw [tabL, hl.out]
      go_wp2
      go_ret
      rw [TabB, hT.out, ← hT2.out]
      exact ⟨qo, co, H, rfl, ho.out, hE.out⟩
end Go.Proofs.Ytaigndaabmelhaa
