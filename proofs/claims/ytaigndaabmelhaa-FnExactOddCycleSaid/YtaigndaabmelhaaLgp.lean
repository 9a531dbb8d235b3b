/- Contracts of the reference's l33Meets, l33Sets, l33Graph. Condition: points on the chip; at most 12 parts; a spacing from 1 to 8. -/
import Derived.Test.YtaigndaabmelhaaLgr
namespace Go.Proofs.Ytaigndaabmelhaa
open Go.RowKit

def meetP (g : Grid) (ps : List Q2) : Bool := ps.any fun p => gh g p.a p.b
set_option maxRecDepth 100000 in
set_option maxHeartbeats 4000000 in
theorem l33Meets_any (B cb : Nat) (g : Grid) (q : Option Addr) (n c : Nat) (ps : List Q2) (w : World) (hb : Bits w B g) (h : SlT enc2 2 w q n ps) (hn : n ≤ 100000000) (hv : ∀ p ∈ ps, onC p.a p.b = true) :
    Calls Try.prog 130 #[.slice (some ⟨B, 0, none⟩) 6400 cb, .slice q n c] w fun e w' => e = .returned (.bool (meetP g ps)) ∧ Ext w w' := by
  have hl := hid h.length
  have hbw := hid hb
  have hv := hid hv
  clear hb
  go_enter Try.func130, Try.ntmps130
  go_wp2
  go_loopw [5] (fun i wr => ∃ k : Nat, k ≤ n ∧ i = .int .i64 k ∧ Hid ((ps.take k).any (fun p => gh g p.a p.b) = false) ∧ Hid (Ext w wr)) (fun i _ => n - (intOf i).toNat)
  case atStart => exact ⟨0, by omega, rfl, rfl, Ext.refl _⟩
  case round =>
    obtain ⟨k, hk, rfl, hno, hE⟩ := hrel
    by_cases hlt : k < n
    · have hltI : (k : Int) < (n : Int) := by omega
      obtain ⟨b, off, p, rfl, hb, hp, z0, z1⟩ := (h.ext hE.out).two hlt
      have hon := hid (hv.out p (List.mem_of_getElem? hp.out))
      have hat := atG_lt hon.out
      have hbb := hbw.out.ext hE.out
      have zg := hbb.2 _ hat
      have hgl := hbb.1
      have hgo := gh_on (g := g) hon.out
      clear hbb
      cases hg : g (atG p.a p.b) with
      | true =>
        rw [hg] at zg
        have hr : Hid (meetP g ps = true) := (any_hit (p := fun p : Q2 => gh g p.a p.b) hp.out (hgo.trans hg) : ps.any (fun p => gh g p.a p.b) = true)
        clear hgo hg
        go_wp2_with fail
        refine wp_region_later (by kernel_rfl) (by kernel_rfl) ?_
        repeat (go_big_quiet_step ((go_at_call 125; exact later_same (l03At_any _ _ _ hon.out))))
        refine wpQuiet_nil ?_
        rintro w1 ⟨⟨_, E1⟩, rfl⟩
        have hE1 := hid (hE.out.trans E1)
        clear E1
        go_wp2_with fail
        go_ret
        exact ⟨ret_bool hr.out.symm, hE1.out⟩
      | false =>
        rw [hg] at zg
        have hr := hid (any_take_snoc hno.out hp.out (hgo.trans hg))
        clear hgo hg
        go_wp2_with fail
        refine wp_region_later (by kernel_rfl) (by kernel_rfl) ?_
        repeat (go_big_quiet_step ((go_at_call 125; exact later_same (l03At_any _ _ _ hon.out))))
        refine wpQuiet_nil ?_
        rintro w1 ⟨⟨_, E1⟩, rfl⟩
        have hE1 := hid (hE.out.trans E1)
        clear E1
        go_wp2_with fail
        go_roundw
        case rel => exact ⟨k + 1, by omega, by go_num, hr, hE1⟩
        case measure => simp [intOf]; omega
    · have hltI : ¬ (k : Int) < (n : Int) := by omega
      rw [take_all hl.out (by omega)] at hno
      go_wp2_with fail
      go_ret
      exact ⟨ret_bool hno.out.symm, hE.out⟩
theorem info_PP : (Try.prog.info? 97).map (fun i => (i.zero, i.size, i.bytes)) = some (some (.slice none 0 0), 1, 24) := by kernel_rfl
def flP (S : List (List Q2)) : List (List Value) := S.map (·.flatMap enc2)
theorem flP_snoc (S : List (List Q2)) (r : List Q2) : flP (S ++ [r]) = flP S ++ [r.flatMap enc2] := by simp [flP]
def SetsB (S : List (List Q2)) (w : World) (e : Ending) (w' : World) : Prop := ∃ (q : Option Addr) (c : Nat), e = .returned (.slice q S.length c) ∧ SlR enc2 2 w' q S.length S ∧ Ext w w'
set_option maxRecDepth 100000 in
set_option maxHeartbeats 4000000 in
theorem l33Sets_any (q : Option Addr) (n c : Nat) (L : List (List Q4)) (w : World) (h : SlR enc4 4 w q n L) (hn : n ≤ 1000) (hv : ∀ l ∈ L, l.length ≤ 3200 ∧ ∀ r ∈ l, vR r = true) :
    Calls Try.prog 124 #[.slice q n c] w (SetsB (L.map cellsP) w) := by
  have hl := hid h.length
  replace hv := hid hv
  obtain ⟨i0, hi, hz0, hz1, hz2⟩ := info_parts info_PP
  go_enter Try.func124, Try.ntmps124
  go_upto_region 2 with (fail)
  have ho0 : (w.alloc (.cells #[] 97)).ownsRow w.heap.size 97 1 (.slice (some ⟨w.heap.size, 0, none⟩) 0 0) 0 [] := by
    have := World.ownsRow_made (base := w.heap.size) (e := 97) (size := 1) w #[] 0 (by simp) (by simp [maxLen]) (by simp)
    exact this
  generalize hW : w.alloc _ = W0 at ho0 ⊢
  have E0 : Ext w W0 := by rw [← hW]; exact (Ext.refl _).alloc _
  clear hW
  replace ho0 := hid ho0
  replace E0 := hid E0
  go_wp2
  go_loopw [3, 4] (fun vo iv wr => ∃ (k : Nat) (qo : Option Addr) (co : Nat) (H : List Hd), k ≤ n ∧ iv = .int .i64 k ∧ vo = .slice qo k co ∧ Hid (OwnG 97 138 2 w.heap.size wr qo k co H (flP ((L.take k).map cellsP))) ∧ Hid (Ext w wr)) (fun _ i _ => n - (intOf i).toNat)
  case atStart => exact ⟨0, _, _, [], by omega, rfl, rfl, OwnG.start ho0.out, E0⟩
  case round =>
    clear ho0 E0
    obtain ⟨k, qo, co, H, hk, rfl, rfl, ho, hE⟩ := hrel
    by_cases hlt : k < n
    · have hltI : (k : Int) < (n : Int) := by omega
      obtain ⟨b, off, q1, n1, c1, l1, rfl, hb, hl1, z, t1⟩ := (h.ext hE.out).get hlt
      have g1 := hid (hv.out l1 (List.mem_of_getElem? hl1.out))
      have hsn : Hid (flP ((L.take (k + 1)).map cellsP) = flP ((L.take k).map cellsP) ++ [(cellsP l1).flatMap enc2]) := by show _ = _; rw [take_snoc hl1.out, List.map_append]; exact flP_snoc _ _
      have hcl := hid (l33Cells_any q1 n1 c1 l1 _ t1 (by have := t1.length; have := g1.out.1; omega) g1.out.2)
      clear t1
      go_wp2_with fail
      refine hcl.out.mono ?_
      rintro e w5 ⟨q5, c5, rfl, o5, E5⟩
      have hO := hid o5
      have hE5 := hid E5
      have hsz := hE.out.le
      have hsz2 := E5.le
      have htop := hid (owns_ext ho.out.top E5)
      have hEw := hid ((hE.out.trans E5).alloc (.cells #[.slice q5 (cellsP l1).length c5] 97))
      clear o5 E5 hcl z hb
      obtain ⟨m5, hm5⟩ : ∃ m5, m5 = (cellsP l1).length := ⟨_, rfl⟩
      rw [← hm5] at hO hEw ⊢
      clear hm5
      go_wp2_with (at_builtin; refine wpList_append_own_at _ rfl _ _ 134 rfl w.heap.size 97 i0 (.slice none 0 0) 1 24 Try.underlying134 hi hz0 hz1 hz2 rfl (by omega) _ _ _ rfl (htop.out.alloc _) ⟨_, 0, none⟩ 1 1 [.slice q5 m5 c5] rfl rfl (cells_new1 _ _ _) (one_hd1 _ _ _) (len_le (by omega) (by omega)) (by omega) (by simp; omega) ?_; intro v' w9 ho' hg' _ hb'; obtain ⟨qa, ca, rfl⟩ := owns_forms ho'; replace ho' := hid ho'; replace hg' := hid hg'; replace hb' := hid hb')
      go_roundw
      case rel => exact ⟨k + 1, qa, ca, _, by omega, by go_num, rfl, by rw [hsn.out]; exact ho.out.more hE.out.le hO.out hE5.out _ ho'.out hg'.out hb'.out, hEw.out.grown hg'.out (fun g hg => (htop.out.lt g hg).1)⟩
      case measure => simp [intOf]; omega
    · have hltI : ¬ (k : Int) < (n : Int) := by omega
      obtain rfl : k = n := by omega
      have hT : Hid ((L.map cellsP).length = k) := (List.length_map _).trans hl.out
      rw [take_all hl.out (Nat.le_refl _)] at ho
      go_wp2_with fail
      go_ret
      rw [SetsB, hT.out]
      exact ⟨qo, co, rfl, ho.out.toR (by omega) enc2_len, hE.out⟩
/-- The set of some points. -/
def ptG (ps : List Q2) : Grid := gmk fun x y => ps.any fun p => decide (p.a = x) && decide (p.b = y)
theorem ptG_nil : gcells (gL []) = gcells (ptG []) := gmk_ext fun x y _ => by simp [inL]
theorem ptG_snoc {ps : List Q2} {k : Nat} {p : Q2} (h : ps[k]? = some p) (hon : onC p.a p.b = true) : (gcells (ptG (ps.take k))).set (atG p.a p.b) (.bool true) = gcells (ptG (ps.take (k + 1))) := by
  rw [gcells_set, ptG, ptG]
  refine gset_gmk _ hon fun x y _ => ?_
  rw [take_snoc h, List.any_append]
  by_cases e : x = p.a ∧ y = p.b
  · obtain ⟨rfl, rfl⟩ := e
    simp
  · have : (decide (p.a = x) && decide (p.b = y)) = false := by
      simp only [Bool.and_eq_false_iff, decide_eq_false_iff_not]
      by_cases h1 : p.a = x
      · right; intro h2; exact e ⟨h1.symm, h2.symm⟩
      · left; exact h1
    simp [this, e]
theorem gh_ptG {ps : List Q2} {x y : Int} (hv : ∀ p ∈ ps, onC p.a p.b = true) : gh (ptG ps) x y = true ↔ ⟨x, y⟩ ∈ ps := by
  constructor
  · intro h
    have hon : onC x y = true := by
      cases ho : onC x y with
      | true => rfl
      | false => rw [gh_off ho] at h; cases h
    rw [ptG, gh_gmk _ hon, List.any_eq_true] at h
    obtain ⟨p, hp, h2⟩ := h
    simp only [Bool.and_eq_true, decide_eq_true_eq] at h2
    obtain ⟨rfl, rfl⟩ := h2
    exact hp
  · intro h
    rw [ptG, gh_gmk _ (hv _ h), List.any_eq_true]
    exact ⟨_, h, by simp⟩
def gtB (S : List (List Q2)) (s : Int) (i k : Nat) : Bool := !decide (i = k) && meetP (growC (ptG (S.getD i [])) s) (S.getD k [])
def gtR (S : List (List Q2)) (s : Int) (i m : Nat) : List Bool := (List.range m).map fun k => gtB S s i k
def gtN (S : List (List Q2)) (s : Int) (m : Nat) : List (List Bool) := (List.range m).map fun i => gtR S s i S.length
theorem gtR_succ (S : List (List Q2)) (s : Int) (i m : Nat) : gtR S s i (m + 1) = gtR S s i m ++ [gtB S s i m] := by simp [gtR, List.range_succ]
theorem gtN_succ (S : List (List Q2)) (s : Int) (m : Nat) : gtN S s (m + 1) = gtN S s m ++ [gtR S s m S.length] := by simp [gtN, List.range_succ]
set_option maxRecDepth 100000 in
set_option maxHeartbeats 8000000 in
theorem l33Graph_any (q : Option Addr) (n c : Nat) (S : List (List Q2)) (s : Int) (w : World) (h : SlR enc2 2 w q n S) (hn : n ≤ 1000) (hv : ∀ ps ∈ S, ps.length ≤ 100000000 ∧ ∀ p ∈ ps, onC p.a p.b = true) (hs0 : 1 ≤ s) (hs8 : s ≤ 8) :
    Calls Try.prog 123 #[.slice q n c, .int .i64 s] w (TabB (gtN S s S.length) w) := by
  have hl := hid h.length
  replace hv := hid hv
  obtain ⟨i0, hi, hz0, hz1, hz2⟩ := info_parts info_BB
  obtain ⟨j0, hj, hy0, hy1, hy2⟩ := info_parts info_Bool
  go_enter Try.func123, Try.ntmps123
  go_upto_region 2 with (fail)
  have ho0 : (w.alloc (.cells #[] 79)).ownsRow w.heap.size 79 1 (.slice (some ⟨w.heap.size, 0, none⟩) 0 0) 0 [] := by
    have := World.ownsRow_made (base := w.heap.size) (e := 79) (size := 1) w #[] 0 (by simp) (by simp [maxLen]) (by simp)
    exact this
  generalize hW : w.alloc _ = W0 at ho0 ⊢
  have E0 : Ext w W0 := by rw [← hW]; exact (Ext.refl _).alloc _
  clear hW
  replace ho0 := hid ho0
  replace E0 := hid E0
  go_wp2
  go_loopw [5, 6] (fun vo iv wr => ∃ (k : Nat) (qo : Option Addr) (co : Nat) (H : List Hd), k ≤ n ∧ iv = .int .i64 k ∧ vo = .slice qo k co ∧ Hid (OwnG 79 4 1 w.heap.size wr qo k co H (flB (gtN S s k))) ∧ Hid (Ext w wr)) (fun _ i _ => n - (intOf i).toNat)
  case atStart => exact ⟨0, _, _, [], by omega, rfl, rfl, OwnG.start ho0.out, E0⟩
  case round =>
    clear ho0 E0
    obtain ⟨k, qo, co, H, hk, rfl, rfl, ho, hE⟩ := hrel
    rename World => wo
    by_cases hlt : k < n
    · have hltI : (k : Int) < (n : Int) := by omega
      obtain ⟨b, off, q1, n1, c1, ps, rfl, hb, hl1, z, t1⟩ := (h.ext hE.out).get hlt
      have hK : Hid (∀ V, Ext wo V → b < V.heap.size ∧ V.cell? ⟨b, off + k, none⟩ = some (.slice q1 n1 c1)) := fun V hV => ⟨Nat.lt_of_lt_of_le hb hV.le, (hV.cells _ _ hb).trans z⟩
      have hg1 := hv.out ps (List.mem_of_getElem? hl1.out)
      have hn1 : n1 ≤ 100000000 := by rw [← t1.length]; exact hg1.1
      have g1 := hid hg1
      have hpl := hid t1.length
      have t1 := hid t1
      clear z hb hg1
      go_wp2_with fail
      refine (l03Bits_any none 0 0 [] _ (SlT.zero _ _) (by omega) (by simp)).mono ?_
      rintro e w3 ⟨N, rfl, o3, E3⟩
      have hN : wo.heap.size ≤ N := (owns_lt o3).1
      have b3 := owns_toBlk o3
      rw [ptG_nil] at b3
      replace b3 := hid b3
      replace E3 := hid E3
      clear o3
      go_wp2_with fail
      go_loopw [8] (fun im wr => ∃ m : Nat, m ≤ n1 ∧ im = .int .i64 m ∧ Hid (Blk wr N (gcells (ptG (ps.take m))) 4) ∧ Hid (Ext wo wr)) (fun i _ => n1 - (intOf i).toNat)
      case atStart => exact ⟨0, by omega, rfl, b3, E3⟩
      case round =>
        clear b3 E3
        obtain ⟨m, hm, rfl, hbN, hE2⟩ := hrel
        obtain ⟨hb, z⟩ := hK.out _ hE2.out
        by_cases hltm : m < n1
        · have hltmI : (m : Int) < (n1 : Int) := by omega
          obtain ⟨b2, off2, p, e9, hb2, hp, z0, z1⟩ := (t1.out.ext hE2.out).two hltm
          subst e9
          have hon := hid (g1.out.2 p (List.mem_of_getElem? hp.out))
          have hat := atG_lt hon.out
          have hatI : (atG p.a p.b : Int) < 6400 := by omega
          have zn := hbN.out.cells (atG p.a p.b)
          rw [gcells_get _ hat] at zn
          have fz := hbN.out.free (atG p.a p.b)
          have hNl := hbN.out.lt
          have hst := hid (ptG_snoc hp.out hon.out)
          have hb9 := hid ((show Blk wr.drew N _ _ from hbN.out).set (atG p.a p.b) (.bool true))
          have hE9 := hid (hE2.out.drew.setCell (p := ⟨N, atG p.a p.b, none⟩) hN (.bool true))
          go_wp2_with fail
          refine wp_region_still_tail 19 (by kernel_rfl) (by kernel_rfl) ?_
          simp only [List.take_succ_cons, List.take_zero, List.drop_succ_cons, List.drop_zero]
          iterate 17 still_step
          still_call ((l03At_any _ _ _ hon.out).mono fun _ _ h => ⟨h.1, h.2.symm⟩)
          still_step
          refine wpStill_nil ?_
          change wpList _ _ _ _ _ wr.drew
          go_wp2_with fail
          go_roundw
          case rel => exact ⟨m + 1, by omega, by go_num, by have := hb9.out; rw [hst.out] at this; exact this, hE9⟩
          case measure => simp [intOf]; omega
        · have hltmI : ¬ (m : Int) < (n1 : Int) := by omega
          rw [take_all hpl.out (by omega)] at hbN
          have hbits := hid (Bits.ofBlk hbN.out)
          go_wp2_with fail
          refine (l33Grow_any N 6400 (ptG ps) s _ hbits.out (by omega) hs8).mono ?_
          rintro e w5 ⟨M, rfl, o5, E5⟩
          have bM := hid (Bits.of o5)
          have hE5 := hid (hE2.out.trans E5)
          clear o5 E5 z hb hbits hbN
          go_upto_region 12 with (fail)
          have hr0 : (w5.alloc (.cells #[] 4)).ownsRow w5.heap.size 4 1 (.slice (some ⟨w5.heap.size, 0, none⟩) 0 0) 0 [] := by
            have := World.ownsRow_made (base := w5.heap.size) (e := 4) (size := 1) w5 #[] 0 (by simp) (by simp [maxLen]) (by simp)
            exact this
          generalize hW : w5.alloc _ = W1 at hr0 ⊢
          have E1 : Ext w5 W1 := by rw [← hW]; exact (Ext.refl _).alloc _
          clear hW
          replace hr0 := hid hr0
          replace E1 := hid E1
          go_wp2_with fail
          go_loopw [10, 11] (fun vr iv wr => ∃ (m : Nat) (qr : Option Addr) (cr : Nat), m ≤ n ∧ iv = .int .i64 m ∧ vr = .slice qr m cr ∧ Hid (wr.ownsRow w5.heap.size 4 1 (.slice qr m cr) m ((gtR S s k m).flatMap encb)) ∧ Hid (Ext w5 wr)) (fun _ i _ => n - (intOf i).toNat)
          case atStart => exact ⟨0, _, _, by omega, rfl, rfl, hr0, E1⟩
          case round =>
            clear hr0 E1
            obtain ⟨m, qr, cr, hm, rfl, rfl, hrow, hE2⟩ := hrel
            by_cases hltm : m < n
            · have hltmI : (m : Int) < (n : Int) := by omega
              have hEo := hid (hE5.out.trans hE2.out)
              obtain ⟨b', off', q2, n2, c2, ps2, e9, hb, hl2, z, t2⟩ := (h.ext (hE.out.trans hEo.out)).get hltm
              cases e9
              have t2 := hid t2
              have g2 := hid (hv.out ps2 (List.mem_of_getElem? hl2.out))
              by_cases hkm : k = m
              · subst hkm
                have hval : Hid (gtR S s k (k + 1) = gtR S s k k ++ [false]) := by show _ = _; rw [gtR_succ, gtB]; simp
                have hsz := hE2.out.le
                go_wp2_with (at_builtin; refine wpList_append_own_at _ rfl _ _ 79 rfl w5.heap.size 4 j0 (.bool false) 1 1 Try.underlying79 hj hy0 hy1 hy2 rfl (by omega) _ _ _ rfl (hrow.out.alloc _) ⟨_, 0, none⟩ 1 1 [.bool false] rfl rfl (cells_new1 _ _ _) (one_b _) (len_le (by omega) (by omega)) (by omega) (by simp; omega) ?_; intro v' w9 ho' hg' _ hb'; obtain ⟨qa, ca, rfl⟩ := owns_forms ho'; replace ho' := hid ho'; replace hg' := hid hg')
                go_roundw
                case rel => exact ⟨k + 1, qa, ca, by omega, by go_num, rfl, by rw [hval.out, List.flatMap_append]; exact ho'.out, (hE2.out.alloc _).grown hg'.out (fun g hg => (hrow.out.lt g hg).1)⟩
                case measure => simp [intOf]; omega
              · have hkmI : ((k : Int) != (m : Int)) = true := by simp; omega
                have hval : Hid (gtR S s k (m + 1) = gtR S s k m ++ [meetP (growC (ptG ps) s) ps2]) := by
                  show _ = _
                  rw [gtR_succ, gtB, getD_of hl1.out, getD_of hl2.out, decide_eq_false hkm]; rfl
                have hmt := hid (l33Meets_any M 6400 (growC (ptG ps) s) q2 n2 c2 ps2 _ (bM.out.ext hE2.out) t2.out (by have := t2.out.length; have := g2.out.1; omega) g2.out.2)
                go_wp2_with fail
                refine hmt.out.mono ?_
                rintro e w7 ⟨rfl, E7⟩
                have hrow5 := hid (owns_ext hrow.out E7)
                have hE7 := hid (hE2.out.trans E7)
                have hsz := hE7.out.le
                obtain ⟨cv, hcv⟩ : ∃ cv, cv = meetP (growC (ptG ps) s) ps2 := ⟨_, rfl⟩
                rw [← hcv] at hval ⊢
                clear hmt E7 hcv z hb
                go_wp2_with (at_builtin; refine wpList_append_own_at _ rfl _ _ 79 rfl w5.heap.size 4 j0 (.bool false) 1 1 Try.underlying79 hj hy0 hy1 hy2 rfl (by omega) _ _ _ rfl (hrow5.out.alloc _) ⟨_, 0, none⟩ 1 1 [.bool cv] rfl rfl (cells_new1 _ _ _) (one_b _) (len_le (by omega) (by omega)) (by omega) (by simp; omega) ?_; intro v' w9 ho' hg' _ hb'; obtain ⟨qa, ca, rfl⟩ := owns_forms ho'; replace ho' := hid ho'; replace hg' := hid hg')
                go_roundw
                case rel => exact ⟨m + 1, qa, ca, by omega, by go_num, rfl, by rw [hval.out, List.flatMap_append]; exact ho'.out, (hE7.out.alloc _).grown hg'.out (fun g hg => (hrow5.out.lt g hg).1)⟩
                case measure => simp [intOf]; omega
            · have hltmI : ¬ (m : Int) < (n : Int) := by omega
              obtain rfl : m = n := by omega
              have hval : Hid (gtN S s (k + 1) = gtN S s k ++ [gtR S s k m]) := by show _ = _; rw [gtN_succ, hl.out]
              have hEo := hid (hE5.out.trans hE2.out)
              have hEw := hid (hE.out.trans hEo.out)
              have hsz := hE.out.le
              have hsz2 := hEo.out.le
              have htop := hid (owns_ext ho.out.top hEo.out)
              have hrw := hid (owns_lowP hrow.out hE5.out.le)
              go_wp2_with (at_builtin; refine wpList_append_own_at _ rfl _ _ 76 rfl w.heap.size 79 i0 (.slice none 0 0) 1 24 Try.underlying76 hi hz0 hz1 hz2 rfl (by omega) _ _ _ rfl (htop.out.alloc _) ⟨_, 0, none⟩ 1 1 [.slice qr m cr] rfl rfl (cells_new1 _ _ _) (one_hd1 _ _ _) (len_le (by omega) (by omega)) (by omega) (by simp; omega) ?_; intro v' w9 ho' hg' _ hb'; obtain ⟨qa, ca, rfl⟩ := owns_forms ho'; replace ho' := hid ho'; replace hg' := hid hg'; replace hb' := hid hb')
              go_roundw
              case rel => exact ⟨k + 1, qa, ca, _, by omega, by go_num, rfl, by rw [hval.out, flB_snoc]; exact ho.out.more hE.out.le hrw.out hEo.out _ ho'.out hg'.out hb'.out, (hEw.out.alloc _).grown hg'.out (fun g hg => (htop.out.lt g hg).1)⟩
              case measure => simp [intOf]; omega
    · have hltI : ¬ (k : Int) < (n : Int) := by omega
      obtain rfl : k = n := by omega
      have hT : Hid ((gtN S s S.length).length = k) := by show _ = _; simp [gtN]; exact hl.out
      have hT2 : Hid (gtN S s k = gtN S s S.length) := by show _ = _; rw [hl.out]
      go_wp2_with fail
      go_ret
      rw [TabB, hT.out, ← hT2.out]
      exact ⟨qo, co, H, rfl, ho.out, hE.out⟩
end Go.Proofs.Ytaigndaabmelhaa
