/- Contract of cycle (program). Condition: a table of at most 1000 rows, each as long as it has rows; the path is one. -/
import Derived.Test.YtaigndaabmelhaaCyi
import Derived.Test.YtaigndaabmelhaaOdd
import Derived.Lib.AppendZeros
namespace Go.Proofs.Ytaigndaabmelhaa
open Go.RowKit

def CycB (r : List Nat) (base : Nat) (w : World) (e : Ending) (w' : World) : Prop := ∃ (q : Option Addr) (c : Nat), e = .returned (.slice q r.length c) ∧ (r = [] → q = none) ∧ w'.ownsRow base 2 1 (.slice q r.length c) r.length (r.flatMap encN) ∧ Ext w w'
theorem CycB.nil {r : List Nat} {base : Nat} {w w' : World} (h : r = []) (hE : Ext w w') : CycB r base w (.returned (.slice .none 0 0)) w' := by subst h; exact ⟨.none, 0, rfl, fun _ => rfl, World.ownsRow_nil _ _ _ _, hE⟩
theorem row_facts {T : List (List Bool)} {n : Nat} {w : World} {q : Option Addr} (h : SlR encb 1 w q n T) (hrows : ∀ r ∈ T, r.length = n) {i k : Nat} (hi : i < n) (hk : k < n) :
    ∃ b off q3 c3 b4 o4, q = some ⟨b, off, none⟩ ∧ b < w.heap.size ∧ b4 < w.heap.size ∧ q3 = some ⟨b4, o4, none⟩ ∧ w.cell? ⟨b, off + i, none⟩ = some (.slice q3 n c3) ∧ w.cell? ⟨b4, o4 + k, none⟩ = some (.bool (edg T i k)) := by
  obtain ⟨b, off, q3, n3, c3, row, rfl, hb, hrow, z3, t3⟩ := h.get hi
  have hn3 : n3 = n := by rw [← t3.length]; exact hrows row (List.mem_of_getElem? hrow.out)
  subst hn3
  obtain ⟨b4, o4, fb, rfl, hb4, hfb, z4⟩ := t3.flag hk
  exact ⟨b, off, _, c3, b4, o4, rfl, hb, hb4, rfl, z3, by rw [edg_of hrow.out hfb.out]; exact z4⟩
theorem path_cell {p : List Nat} {w : World} {base n c B : Nat} (h : w.ownsRow base 2 1 (.slice (some ⟨B, 0, none⟩) n c) n (p.flatMap encN)) {j : Nat} (hj : j < p.length) : w.cell? ⟨B, j, none⟩ = some (.int .i64 (p.getD j 0 : Nat)) := by
  have hn : p.length = n := by have := h.1; rw [flatMap_len encN_len] at this; omega
  rw [h.cellAt j (by omega)]
  have := flatMap_at encN_len (List.getElem?_eq_getElem hj) (j := 0) (v := .int .i64 ((p[j] : Nat) : Int)) rfl
  rw [Nat.mul_one, Nat.add_zero] at this
  rw [this, List.getD_eq_getElem?_getD, List.getElem?_eq_getElem hj]; rfl
theorem app_flat {w : World} {base n c : Nat} {q : Option Addr} {p : List Nat} {k : Nat} (h : w.ownsRow base 2 1 (.slice q n c) n (p.flatMap encN ++ [.int .i64 k])) : w.ownsRow base 2 1 (.slice q n c) n ((p ++ [k]).flatMap encN) := by
  rw [List.flatMap_append]; exact h
set_option maxRecDepth 100000 in
set_option maxHeartbeats 8000000 in
theorem cycle_any (T : List (List Bool)) (n cT : Nat) (qT : Option Addr) (hn : n ≤ 1000) (hrows : ∀ r ∈ T, r.length = n) (base : Nat) :
    ∀ (d : Nat) (p : List Nat) (q : Option Addr) (m c N : Nat) (w : World), SlR encb 1 w qT n T → Pa (edg T) n p → p.length = m + 1 → m + 1 + d = N → N ≤ 1000 → w.ownsRow base 2 1 (.slice q (m + 1) c) (m + 1) (p.flatMap encN) → base ≤ w.heap.size →
    Calls Try.prog 67 #[.slice qT n cT, .slice q (m + 1) c, .int .i64 N] w (CycB (cycP (edg T) n d p) base w)
  | 0, p, q, m, c, N, w, h, hp, hm, hN, hN1, ho, hb => by
    obtain ⟨B, rfl⟩ := owns_some ho (by omega)
    have zl := path_cell ho (j := m) (by omega)
    have zh := path_cell ho (j := 0) (by omega)
    have el : lastN p = p.getD m 0 := by rw [lastN, hm]; rfl
    have hpl : ∀ j, j < p.length → p.getD j 0 < n := fun j hj => by
      rw [List.getD_eq_getElem?_getD, List.getElem?_eq_getElem hj]; exact hp.lt _ (List.getElem_mem hj)
    have hl := hpl m (by omega)
    have hh := hpl 0 (by omega)
    obtain ⟨x, hx⟩ : ∃ x, x = p.getD m 0 := ⟨_, rfl⟩
    obtain ⟨y, hy⟩ : ∃ y, y = p.getD 0 0 := ⟨_, rfl⟩
    rw [← hx] at zl hl el
    rw [← hy] at zh hh
    obtain ⟨b, off, q3, c3, b4, o4, rfl, hb1, hb4, rfl, z3, z4⟩ := row_facts h hrows hl hh
    have hBl := (owns_lt ho).2
    have hlI : (x : Int) < (n : Int) := by omega
    have hhI : (y : Int) < (n : Int) := by omega
    have hr : Hid (cycP (edg T) n 0 p = if edg T x y = true then p else []) := by show _ = _; rw [cycP, el, headN, ← hy]
    have hNm : N = m + 1 := by omega
    subst hNm
    replace ho := hid ho
    replace hm := hid hm
    replace el := hid el
    replace hx := hid hx
    replace hy := hid hy
    clear hpl
    cases he : edg T x y with
    | true =>
      rw [he] at z4 hr
      have hr2 : Hid (cycP (edg T) n 0 p = p) := hr.out.trans (if_pos rfl)
      replace he := hid he
      clear hr
      go_enter Try.func67, Try.ntmps67
      go_wp2
      refine wp_region_later (by kernel_rfl) (by kernel_rfl) ?_
      repeat (go_big_quiet_step (fail))
      refine wpQuiet_nil ?_
      rintro w4 ⟨⟨_, E4⟩, rfl⟩
      have ho4 := hid (owns_ext ho.out E4)
      go_wp2
      go_ret
      rw [hr2.out]
      exact ⟨some ⟨B, 0, none⟩, c, by rw [hm.out]; rfl, fun h9 => by have := hm.out; rw [h9] at this; simp at this, by rw [hm.out]; exact ho4.out, E4⟩
    | false =>
      rw [he] at z4 hr
      have hr2 : Hid (cycP (edg T) n 0 p = []) := hr.out.trans (if_neg (by simp))
      replace he := hid he
      clear hr
      go_enter Try.func67, Try.ntmps67
      go_wp2
      refine wp_region_later (by kernel_rfl) (by kernel_rfl) ?_
      repeat (go_big_quiet_step (fail))
      refine wpQuiet_nil ?_
      rintro w4 ⟨⟨_, E4⟩, rfl⟩
      go_wp2
      go_ret
      exact CycB.nil hr2.out E4
  | d + 1, p, q, m, c, N, w, h, hp, hm, hN, hN1, ho, hb => by
    obtain ⟨B, rfl⟩ := owns_some ho (by omega)
    obtain ⟨i0, hi, hz0, hz1, hz2⟩ := info_parts info_I64
    have zl := path_cell ho (j := m) (by omega)
    have zh := path_cell ho (j := 0) (by omega)
    have el : lastN p = p.getD m 0 := by rw [lastN, hm]; rfl
    have hpl : ∀ j, j < p.length → p.getD j 0 < n := fun j hj => by
      rw [List.getD_eq_getElem?_getD, List.getElem?_eq_getElem hj]; exact hp.lt _ (List.getElem_mem hj)
    have hl := hpl m (by omega)
    have hh := hpl 0 (by omega)
    obtain ⟨x, hx⟩ : ∃ x, x = p.getD m 0 := ⟨_, rfl⟩
    obtain ⟨y, hy⟩ : ∃ y, y = p.getD 0 0 := ⟨_, rfl⟩
    rw [← hx] at zl hl el
    rw [← hy] at zh hh
    have hBl := (owns_lt ho).2
    have hlI : (x : Int) < (n : Int) := by omega
    have hhI : (y : Int) < (n : Int) := by omega
    have hr : Hid (cycP (edg T) n (d + 1) p = fne (fun k => if edg T x k = true ∧ k ∉ p then cycP (edg T) n d (p ++ [k]) else []) (y + 1) (n - (y + 1))) := by show _ = _; rw [cycP, el, headN, ← hy]
    have hNm : ((m : Int) + 1 == (N : Int)) = false := by simp; omega
    have hNm2 : decide ((m : Int) + 1 = (N : Int)) = false := by simp; omega
    have hmb : m + 1 < 1000 := by omega
    have ih := hid (cycle_any T n cT qT hn hrows base d)
    have hTl := hid h.length
    have hpp := hid hp
    have h0 := hid h
    replace ho := hid ho
    replace hm := hid hm
    replace el := hid el
    replace hx := hid hx
    replace hy := hid hy
    replace hN := hid hN
    clear hpl hp
    go_enter Try.func67, Try.ntmps67
    go_wp2
    go_loopw [8] (fun ik wr => ∃ k : Nat, y + 1 ≤ k ∧ k ≤ n ∧ ik = .int .i64 k ∧ Hid (Ext w wr) ∧ Hid (cycP (edg T) n (d + 1) p = fne (fun k => if edg T x k = true ∧ k ∉ p then cycP (edg T) n d (p ++ [k]) else []) k (n - k))) (fun i _ => n - (intOf i).toNat)
    case atStart => exact ⟨y + 1, by omega, by omega, by go_num, Ext.refl _, hr⟩
    case round =>
      clear hr zl zh
      obtain ⟨k, hk1, hk2, rfl, hE, hr⟩ := hrel
      by_cases hlt : k < n
      · have hltI : (k : Int) < (n : Int) := by omega
        have hnk : n - k = (n - (k + 1)) + 1 := by omega
        obtain ⟨b, off, q3, c3, b4, o4, rfl, hb1, hb4, rfl, z3, z4⟩ := row_facts (h0.out.ext hE.out) hrows hl hlt
        have ho1 := owns_ext ho.out hE.out
        have hsp := SlT.of_owns (l := p) encN_len hm.out ho1
        have hct := hid (contains64_any (some ⟨B, 0, none⟩) (m + 1) c p k wr hsp (by omega))
        have hnk := hid hnk
        have ho1 := hid ho1
        by_cases hgo : edg T x k = true ∧ k ∉ p
        · have hdm : decide (k ∈ p) = false := decide_eq_false hgo.2
          rw [hdm] at hct
          rw [hgo.1] at z4
          have hpa := hid (hpp.out.snoc hlt hgo.2 (by rw [el.out]; exact hgo.1))
          have hr1 : Hid (cycP (edg T) n (d + 1) p = fne (fun k => if edg T x k = true ∧ k ∉ p then cycP (edg T) n d (p ++ [k]) else []) k ((n - (k + 1)) + 1)) := by show _ = _; rw [hr.out, hnk.out]
          replace hgo := hid hgo
          replace hsp := hid hsp
          clear hr hdm
          go_wp2_with fail
          refine hct.out.mono ?_
          rintro e w4 ⟨rfl, rfl⟩
          go_wp2_with fail
          refine (clone64_any B 0 (m + 1) c p _ hsp.out (by omega)).mono ?_
          rintro e w5 ⟨q5, c5, rfl, o5, E5⟩
          have o5 := hid o5
          have hE5 := hid (hE.out.trans E5)
          have hsz := hE5.out.le
          have hsz2 := E5.le
          have hbw := Nat.le_trans hb hE.out.le
          obtain ⟨HS, hHS⟩ : ∃ HS, HS = wr.heap.size := ⟨_, rfl⟩
          have hwHS : w.heap.size ≤ HS := by rw [hHS]; exact hE.out.le
          rw [← hHS] at o5 hsz2 hbw
          replace hHS := hid hHS
          clear E5 z3 z4 hb1 hb4 hct
          go_wp2_with (at_builtin; refine wpList_append_own_at _ rfl _ _ 41 rfl HS 2 i0 (.int .i64 0) 1 8 Try.underlying41 hi hz0 hz1 hz2 rfl (by omega) _ _ _ rfl (o5.out.alloc _) ⟨_, 0, none⟩ 1 1 [.int .i64 k] rfl rfl (cells_new1 _ _ _) (one_int1 _) (len_le (by omega) (by omega)) (by omega) (by simp; omega) ?_; intro v' w9 ho' hg' _ hb'; obtain ⟨qa, ca, rfl⟩ := owns_forms ho'; replace ho' := hid ho'; replace hg' := hid hg'; clear hb'; have hE9 := hid ((hE5.out.alloc (.cells #[.int .i64 k] 2)).grown hg'.out (fun g hg => Nat.le_trans hwHS (o5.out.lt g hg).1)); have ho9 := hid (app_flat (owns_lowP ho'.out hbw)); have hb9 := Nat.le_trans hb hE9.out.le; clear hg' ho' o5)
          have hm9 : Hid ((p ++ [k]).length = m + 1 + 1) := by show _ = _; rw [List.length_append, hm.out]; rfl
          refine (ih.out (p ++ [k]) qa (m + 1) ca N _ (h0.out.ext hE9.out) hpa.out hm9.out (by have := hN.out; omega) hN1 ho9.out hb9).mono ?_
          rintro e w10 ⟨q10, c10, rfl, hq0, o10, E10⟩
          obtain ⟨R, hR⟩ : ∃ R, R = cycP (edg T) n d (p ++ [k]) := ⟨_, rfl⟩
          rw [← hR] at hq0 o10 ⊢
          have hE10 := hid (hE9.out.trans E10)
          by_cases hR0 : R = []
          · have hq1 := hq0 hR0
            subst hq1
            have hnil := fun W => neq_nil64 W none R.length c10
            have hr2 : Hid (cycP (edg T) n (d + 1) p = fne (fun k => if edg T x k = true ∧ k ∉ p then cycP (edg T) n d (p ++ [k]) else []) (k + 1) (n - (k + 1))) := by
              show _ = _
              rw [hr1.out, fne_skip ((if_pos hgo.out).trans (hR.symm.trans hR0))]
            replace hR := hid hR
            replace hR0 := hid hR0
            replace o10 := hid o10
            replace hq0 := hid hq0
            clear hr1 E10
            go_wp2_with fail
            go_roundw
            case rel => exact ⟨k + 1, by omega, by omega, by go_num, hE10, hr2⟩
            case measure => simp [intOf]; omega
          · obtain ⟨B9, rfl⟩ := owns_some o10 (List.length_pos_iff.2 hR0)
            have hnil := fun W => neq_nil64 W (some ⟨B9, 0, none⟩) R.length c10
            have hr2 : Hid (cycP (edg T) n (d + 1) p = R) := by
              show _ = _
              rw [hr1.out, fne_hit (fun h9 => hR0 ((hR.trans (if_pos hgo.out).symm).trans h9))]
              exact (if_pos hgo.out).trans hR.symm
            replace hR := hid hR
            have hR0 := hid hR0
            replace o10 := hid o10
            replace hq0 := hid hq0
            clear hr1 E10
            go_wp2_with fail
            go_ret
            rw [hr2.out]
            exact ⟨_, c10, rfl, hq0.out, o10.out, hE10.out⟩
        · have hr2 : Hid (cycP (edg T) n (d + 1) p = fne (fun k => if edg T x k = true ∧ k ∉ p then cycP (edg T) n d (p ++ [k]) else []) (k + 1) (n - (k + 1))) := by
            show _ = _
            rw [hr.out, hnk.out, fne_skip (if_neg hgo)]
          cases he : edg T x k with
          | false =>
            rw [he] at z4
            replace he := hid he
            replace hgo := hid hgo
            clear hct hsp hr
            go_wp2_with fail
            go_roundw
            case rel => exact ⟨k + 1, by omega, by omega, by go_num, hE, hr2⟩
            case measure => simp [intOf]; omega
          | true =>
            have hkp : decide (k ∈ p) = true := by
              apply decide_eq_true
              apply Classical.byContradiction
              intro h9
              exact hgo ⟨he, h9⟩
            rw [hkp] at hct
            rw [he] at z4
            replace he := hid he
            replace hgo := hid hgo
            clear hsp hr hkp
            go_wp2_with fail
            refine hct.out.mono ?_
            rintro e w4 ⟨rfl, rfl⟩
            go_wp2_with fail
            go_roundw
            case rel => exact ⟨k + 1, by omega, by omega, by go_num, hE, hr2⟩
            case measure => simp [intOf]; omega
      · have hltI : ¬ (k : Int) < (n : Int) := by omega
        have hr2 : Hid (cycP (edg T) n (d + 1) p = []) := by show _ = _; rw [hr.out, show n - k = 0 by omega, fne]
        go_wp2
        go_ret
        exact CycB.nil hr2.out hE.out
end Go.Proofs.Ytaigndaabmelhaa
/- Contract of l33Cycle (reference). Condition: a table of at most 1000 rows, each as long as it has rows; the list is empty or a path. -/
namespace Go.Proofs.Ytaigndaabmelhaa
open Go.RowKit

theorem alloc_lt (w : World) (o : Obj) : w.heap.size < (w.alloc o).heap.size := by rw [World.alloc]; simp
theorem app_zero {w : World} {base n c : Nat} {q : Option Addr} {xs : List Value} (h : w.ownsRow base 2 1 (.slice q (0 + n) c) (0 + n) ([] ++ xs)) : w.ownsRow base 2 1 (.slice q n c) n xs := by simpa using h
def usedN (p : List Nat) (k m : Nat) : Bool := (p.take m).any fun x => decide (x = k)
theorem usedN_succ {p : List Nat} {k m x : Nat} (h : p[m]? = some x) : usedN p k (m + 1) = (usedN p k m || decide (x = k)) := by rw [usedN, usedN, take_snoc h, List.any_append]; simp
theorem usedN_all {p : List Nat} {k m : Nat} (h : p.length = m) : usedN p k m = decide (k ∈ p) := by
  rw [usedN, take_all h (Nat.le_refl _), Bool.eq_iff_iff, List.any_eq_true, decide_eq_true_eq]
  constructor
  · rintro ⟨x, hx, he⟩; rw [decide_eq_true_eq] at he; exact he ▸ hx
  · intro hk; exact ⟨k, hk, by simp⟩
set_option maxRecDepth 100000 in
set_option maxHeartbeats 8000000 in
theorem cycleR_any (T : List (List Bool)) (n cT : Nat) (qT : Option Addr) (hn : n ≤ 1000) (hrows : ∀ r ∈ T, r.length = n) (base : Nat) :
    ∀ (d : Nat) (p : List Nat) (q : Option Addr) (m c N : Nat) (w : World), SlR encb 1 w qT n T → Pa (edg T) n p → p.length = m + 1 → m + 1 + d = N → N ≤ 1000 → w.ownsRow base 2 1 (.slice q (m + 1) c) (m + 1) (p.flatMap encN) → base ≤ w.heap.size →
    Calls Try.prog 88 #[.slice qT n cT, .slice q (m + 1) c, .int .i64 N] w (CycB (cycR (edg T) n d p) base w)
  | 0, p, q, m, c, N, w, h, hp, hm, hN, hN1, ho, hb => by
    obtain ⟨B, rfl⟩ := owns_some ho (by omega)
    have zl := path_cell ho (j := m) (by omega)
    have zh := path_cell ho (j := 0) (by omega)
    have el : lastN p = p.getD m 0 := by rw [lastN, hm]; rfl
    have hpl : ∀ j, j < p.length → p.getD j 0 < n := fun j hj => by
      rw [List.getD_eq_getElem?_getD, List.getElem?_eq_getElem hj]; exact hp.lt _ (List.getElem_mem hj)
    have hl := hpl m (by omega)
    have hh := hpl 0 (by omega)
    obtain ⟨x, hx⟩ : ∃ x, x = p.getD m 0 := ⟨_, rfl⟩
    obtain ⟨y, hy⟩ : ∃ y, y = p.getD 0 0 := ⟨_, rfl⟩
    rw [← hx] at zl hl el
    rw [← hy] at zh hh
    obtain ⟨b, off, q3, c3, b4, o4, rfl, hb1, hb4, rfl, z3, z4⟩ := row_facts h hrows hl hh
    have hBl := (owns_lt ho).2
    have hlI : (x : Int) < (n : Int) := by omega
    have hhI : (y : Int) < (n : Int) := by omega
    have hr : Hid (cycR (edg T) n 0 p = if edg T x y = true then p else []) := by show _ = _; rw [cycR, el, headN, ← hy]
    have hNm : N = m + 1 := by omega
    subst hNm
    replace ho := hid ho
    replace hm := hid hm
    replace el := hid el
    replace hx := hid hx
    replace hy := hid hy
    clear hpl
    cases he : edg T x y with
    | true =>
      rw [he] at z4 hr
      have hr2 : Hid (cycR (edg T) n 0 p = p) := hr.out.trans (if_pos rfl)
      replace he := hid he
      clear hr
      go_enter Try.func88, Try.ntmps88
      go_wp2
      refine wp_region_later (by kernel_rfl) (by kernel_rfl) ?_
      repeat (go_big_quiet_step (fail))
      refine wpQuiet_nil ?_
      rintro w4 ⟨⟨_, E4⟩, rfl⟩
      have ho4 := hid (owns_ext ho.out E4)
      go_wp2
      go_ret
      rw [hr2.out]
      exact ⟨some ⟨B, 0, none⟩, c, by rw [hm.out]; rfl, fun h9 => by have := hm.out; rw [h9] at this; simp at this, by rw [hm.out]; exact ho4.out, E4⟩
    | false =>
      rw [he] at z4 hr
      have hr2 : Hid (cycR (edg T) n 0 p = []) := hr.out.trans (if_neg (by simp))
      replace he := hid he
      clear hr
      go_enter Try.func88, Try.ntmps88
      go_wp2
      refine wp_region_later (by kernel_rfl) (by kernel_rfl) ?_
      repeat (go_big_quiet_step (fail))
      refine wpQuiet_nil ?_
      rintro w4 ⟨⟨_, E4⟩, rfl⟩
      go_wp2
      go_ret
      exact CycB.nil hr2.out E4
  | d + 1, p, q, m, c, N, w, h, hp, hm, hN, hN1, ho, hb => by
    obtain ⟨B, rfl⟩ := owns_some ho (by omega)
    obtain ⟨i0, hi, hz0, hz1, hz2⟩ := info_parts info_I64
    have zl := path_cell ho (j := m) (by omega)
    have el : lastN p = p.getD m 0 := by rw [lastN, hm]; rfl
    have hl : p.getD m 0 < n := by
      rw [List.getD_eq_getElem?_getD, List.getElem?_eq_getElem (by omega)]; exact hp.lt _ (List.getElem_mem _)
    obtain ⟨x, hx⟩ : ∃ x, x = p.getD m 0 := ⟨_, rfl⟩
    rw [← hx] at zl hl el
    have hBl := (owns_lt ho).2
    have hlI : (x : Int) < (n : Int) := by omega
    have hr : Hid (cycR (edg T) n (d + 1) p = fne (fun k => if k ∈ p ∨ (p ≠ [] ∧ edg T x k = false) then [] else cycR (edg T) n d (p ++ [k])) 0 n) := by show _ = _; rw [cycR, el]
    have hNm : ((m : Int) + 1 == (N : Int)) = false := by simp; omega
    have hNm2 : decide ((m : Int) + 1 = (N : Int)) = false := by simp; omega
    have hmb : m + 1 < 1000 := by omega
    have hpos : (0 : Int) < (m : Int) + 1 := by omega
    have ih := hid (cycleR_any T n cT qT hn hrows base d)
    have hTl := hid h.length
    have hpp := hid hp
    have h0 := hid h
    replace ho := hid ho
    replace hm := hid hm
    replace el := hid el
    replace hx := hid hx
    replace hN := hid hN
    clear hp
    go_enter Try.func88, Try.ntmps88
    go_wp2
    go_loopw [7] (fun ik wr => ∃ k : Nat, k ≤ n ∧ ik = .int .i64 k ∧ Hid (Ext w wr) ∧ Hid (cycR (edg T) n (d + 1) p = fne (fun k => if k ∈ p ∨ (p ≠ [] ∧ edg T x k = false) then [] else cycR (edg T) n d (p ++ [k])) k (n - k))) (fun i _ => n - (intOf i).toNat)
    case atStart => exact ⟨0, by omega, by go_num, Ext.refl _, by rw [Nat.sub_zero]; exact hr⟩
    case round =>
      clear hr zl
      obtain ⟨k, hk2, rfl, hE, hr⟩ := hrel
      by_cases hlt : k < n
      · have hltI : (k : Int) < (n : Int) := by omega
        go_wp2
        go_loopw [8, 9] (fun iu ij wj => ∃ j : Nat, j ≤ m + 1 ∧ ij = .int .i64 j ∧ iu = .bool (usedN p k j) ∧ wj = wr) (fun _ i _ => m + 1 - (intOf i).toNat)
        case atStart => exact ⟨0, by omega, by go_num, rfl, rfl⟩
        case round =>
          obtain ⟨j, hj, rfl, rfl, rfl⟩ := hrel
          by_cases hjl : j < m + 1
          · have hjI : (j : Int) < (m : Int) + 1 := by omega
            obtain ⟨u, hu⟩ : ∃ u, u = usedN p k j := ⟨_, rfl⟩
            have hpj : p[j]? = some (p.getD j 0) := by rw [List.getD_eq_getElem?_getD, List.getElem?_eq_getElem (by rw [hm.out]; exact hjl)]; rfl
            have hsu := usedN_succ (k := k) hpj
            rw [← hu] at hsu ⊢
            replace hu := hid hu
            cases u with
            | true =>
              have hs2 : Hid (usedN p k (j + 1) = true) := by show _ = _; rw [hsu]; rfl
              clear hsu hpj
              go_wp2
              go_roundw
              case rel => exact ⟨j + 1, by omega, by go_num, by rw [hs2.out], trivial⟩
              case measure => simp [intOf]; omega
            | false =>
              have zj := path_cell (owns_ext ho.out hE.out) (j := j) (by rw [hm.out]; exact hjl)
              have hBr := Nat.lt_of_lt_of_le hBl hE.out.le
              obtain ⟨v, hv⟩ : ∃ v, v = p.getD j 0 := ⟨_, rfl⟩
              rw [← hv] at zj hsu
              clear hpj
              replace hv := hid hv
              by_cases he : v = k
              · have hB1 : ((v : Int) == (k : Int)) = true := by simp; omega
                have hB2 : decide ((v : Int) = (k : Int)) = true := by simp; omega
                have hs2 : Hid (usedN p k (j + 1) = true) := by show _ = _; rw [hsu, decide_eq_true he]; rfl
                replace he := hid he
                clear hsu
                go_wp2
                go_roundw
                case rel => exact ⟨j + 1, by omega, by go_num, by rw [hs2.out], trivial⟩
                case measure => simp [intOf]; omega
              · have hB1 : ((v : Int) == (k : Int)) = false := by simp; omega
                have hB2 : decide ((v : Int) = (k : Int)) = false := by simp; omega
                have hs2 : Hid (usedN p k (j + 1) = false) := by show _ = _; rw [hsu, decide_eq_false he]; rfl
                replace he := hid he
                clear hsu
                go_wp2
                go_roundw
                case rel => exact ⟨j + 1, by omega, by go_num, by rw [hs2.out], trivial⟩
                case measure => simp [intOf]; omega
          · have hjI : ¬ (j : Int) < (m : Int) + 1 := by omega
            obtain rfl : j = m + 1 := by omega
            have hue := usedN_all (k := k) hm.out
            rw [hue]
            clear hue
            have hnk : n - k = (n - (k + 1)) + 1 := by omega
            by_cases hkp : k ∈ p
            · rw [decide_eq_true hkp]
              have hr2 : Hid (cycR (edg T) n (d + 1) p = fne (fun k => if k ∈ p ∨ (p ≠ [] ∧ edg T x k = false) then [] else cycR (edg T) n d (p ++ [k])) (k + 1) (n - (k + 1))) := by
                show _ = _
                rw [hr.out, hnk, fne_skip (if_pos (Or.inl hkp))]
              replace hkp := hid hkp
              go_wp2
              go_roundw
              case rel => exact ⟨k + 1, by omega, by go_num, hE, hr2⟩
              case measure => simp [intOf]; omega
            · rw [decide_eq_false hkp]
              obtain ⟨b, off, q3, c3, b4, o4, rfl, hb1, hb4, rfl, z3, z4⟩ := row_facts (h0.out.ext hE.out) hrows hl hlt
              have ho1 := owns_ext ho.out hE.out
              have zl := path_cell ho1 (j := m) (by rw [hm.out]; omega)
              rw [← hx.out] at zl
              have hBr := Nat.lt_of_lt_of_le hBl hE.out.le
              cases he : edg T x k with
              | false =>
                rw [he] at z4
                have hr2 : Hid (cycR (edg T) n (d + 1) p = fne (fun k => if k ∈ p ∨ (p ≠ [] ∧ edg T x k = false) then [] else cycR (edg T) n d (p ++ [k])) (k + 1) (n - (k + 1))) := by
                  show _ = _
                  rw [hr.out, hnk, fne_skip (if_pos (Or.inr ⟨hpp.out.ne, he⟩))]
                replace hkp := hid hkp
                replace he := hid he
                replace ho1 := hid ho1
                go_wp2
                go_roundw
                case rel => exact ⟨k + 1, by omega, by go_num, hE, hr2⟩
                case measure => simp [intOf]; omega
              | true =>
                rw [he] at z4
                have hgo : Hid (¬ (k ∈ p ∨ (p ≠ [] ∧ edg T x k = false))) := by rintro (h9 | ⟨_, h9⟩); exact hkp h9; rw [he] at h9; cases h9
                have hpa := hid (hpp.out.snoc hlt hkp (by rw [el.out]; exact he))
                have hr1 : Hid (cycR (edg T) n (d + 1) p = fne (fun k => if k ∈ p ∨ (p ≠ [] ∧ edg T x k = false) then [] else cycR (edg T) n d (p ++ [k])) k ((n - (k + 1)) + 1)) := by show _ = _; rw [hr.out, ← hnk]
                have hsp := SlT.of_owns (l := p) encN_len hm.out ho1
                have hnw := hid ((hsp.ext ((Ext.refl _).alloc (.cells #[] 2))).news rfl)
                have hfl : Hid ((p.flatMap encN).length = (m + 1) * 1) := by show _ = _; rw [flatMap_len encN_len, hm.out]
                have oe := hid (show (World.alloc _ (.cells #[] 2)).ownsRow _ 2 1 (.slice (some ⟨_, 0, none⟩) 0 0) 0 [] from World.ownsRow_made (base := wr.heap.size) (e := 2) (size := 1) wr #[] 0 (by simp) (by simp [maxLen]) (by simp))
                replace hnk := hid hnk
                replace hkp := hid hkp
                replace he := hid he
                replace ho1 := hid ho1
                replace hsp := hid hsp
                have hbw := Nat.le_trans hb hE.out.le
                clear hr
                have hwHS := hE.out.le
                have hm9 : Hid ((p ++ [k]).length = m + 1 + 1) := by show _ = _; rw [List.length_append, hm.out]; rfl
                go_wp2_with (at_builtin; first
                  | (refine wpList_append_own_at _ rfl _ _ 41 rfl wr.heap.size 2 i0 (.int .i64 0) 1 8 Try.underlying41 hi hz0 hz1 hz2 rfl (by omega) _ _ _ rfl oe.out ⟨B, 0, none⟩ (m + 1) c (p.flatMap encN) rfl hfl.out hnw.out (one_encN p) (len_le (by omega) (by omega)) (by omega) (by simp) ?_; intro v' w5 ho5 hg5 _ hb5; obtain ⟨q5, c5, rfl⟩ := owns_forms ho5; have o5 := hid (app_zero ho5); have hE5 := hid (((hE.out.alloc (.cells #[] 2))).grown hg5 (fun g hg => Nat.le_trans hwHS (oe.out.lt g hg).1)); have hsz5 := Nat.le_trans (Nat.le_of_lt (alloc_lt wr (.cells #[] 2))) hg5.size; clear hb5 ho5)
                  | (refine wpList_append_own_at _ rfl _ _ 41 rfl wr.heap.size 2 i0 (.int .i64 0) 1 8 Try.underlying41 hi hz0 hz1 hz2 rfl (by omega) _ _ _ rfl (o5.out.alloc _) ⟨_, 0, none⟩ 1 1 [.int .i64 k] rfl rfl (cells_new1 _ _ _) (one_int1 _) (len_le (by omega) (by omega)) (by omega) (by simp; omega) ?_; intro v' w9 ho' hg' _ hb'; obtain ⟨qa, ca, rfl⟩ := owns_forms ho'; replace ho' := hid ho'; replace hg' := hid hg'; clear hb'; have hE9 := hid ((hE5.out.alloc (.cells #[.int .i64 k] 2)).grown hg'.out (fun g hg => Nat.le_trans hwHS (o5.out.lt g hg).1)); have ho9 := hid (app_flat (owns_lowP ho'.out hbw)); have hb9 := Nat.le_trans hb hE9.out.le; clear hg' ho' o5))
                refine (ih.out (p ++ [k]) qa (m + 1) ca N _ (h0.out.ext hE9.out) hpa.out hm9.out (by have := hN.out; omega) hN1 ho9.out hb9).mono ?_
                rintro e w10 ⟨q10, c10, rfl, hq0, o10, E10⟩
                obtain ⟨R, hR⟩ : ∃ R, R = cycR (edg T) n d (p ++ [k]) := ⟨_, rfl⟩
                rw [← hR] at hq0 o10 ⊢
                have hE10 := hid (hE9.out.trans E10)
                by_cases hR0 : R = []
                · have hq1 := hq0 hR0
                  subst hq1
                  have hr2 : Hid (cycR (edg T) n (d + 1) p = fne (fun k => if k ∈ p ∨ (p ≠ [] ∧ edg T x k = false) then [] else cycR (edg T) n d (p ++ [k])) (k + 1) (n - (k + 1))) := by
                    show _ = _
                    rw [hr1.out, fne_skip ((if_neg hgo.out).trans (hR.symm.trans hR0))]
                  subst hR0
                  replace hR := hid hR
                  replace o10 := hid o10
                  replace hq0 := hid hq0
                  clear hr1 E10
                  go_wp2_with fail
                  go_roundw
                  case rel => exact ⟨k + 1, by omega, by go_num, hE10, hr2⟩
                  case measure => simp [intOf]; omega
                · have hRl : (0 : Int) < (R.length : Int) := by have := List.length_pos_iff.2 hR0; omega
                  have hr2 : Hid (cycR (edg T) n (d + 1) p = R) := by
                    show _ = _
                    rw [hr1.out, fne_hit (fun h9 => hR0 ((hR.trans (if_neg hgo.out).symm).trans h9))]
                    exact (if_neg hgo.out).trans hR.symm
                  replace hR := hid hR
                  have hR0 := hid hR0
                  replace o10 := hid o10
                  replace hq0 := hid hq0
                  clear hr1 E10
                  go_wp2_with fail
                  go_ret
                  rw [hr2.out]
                  exact ⟨_, c10, rfl, hq0.out, o10.out, hE10.out⟩
      · have hltI : ¬ (k : Int) < (n : Int) := by omega
        have hr2 : Hid (cycR (edg T) n (d + 1) p = []) := by show _ = _; rw [hr.out, show n - k = 0 by omega, fne]
        go_wp2
        go_ret
        exact CycB.nil hr2.out hE.out
end Go.Proofs.Ytaigndaabmelhaa
/- Contract of l33Cycle (reference) for the empty list. Condition: a table of at most 1000 rows, each as long as it has rows. -/
namespace Go.Proofs.Ytaigndaabmelhaa
open Go.RowKit

theorem cells_new1b (w : World) (o : Obj) (x : Value) (t : TypeId) : ∀ j u, [x][j]? = some u → ((w.alloc o).alloc (.cells #[x] t)).cell? ((⟨w.heap.size + 1, 0, none⟩ : Addr).add j) = some u := by
  have h := cells_new1 (w.alloc o) x t
  rwa [show (w.alloc o).heap.size = w.heap.size + 1 by rw [World.alloc]; simp] at h
theorem run_append_nil0 (w : World) (a : Addr) (ty : TypeId) : (Builtin.append_ #[41, 41] ty #[.slice (some a) 0 0, .slice none 0 0]).run Try.prog w = .ok (.slice (some a) 0 0) w := by
  obtain ⟨i0, hi, _, _, _⟩ := info_parts info_I64
  have h := Try.underlying41
  have h2 := Try.underlying2
  simp [Builtin.append_, run_underlying h, sizeOf, typeInfo, hi, Builtin.lenOf, Builtin.firstCells, storeCells]
set_option maxRecDepth 100000 in
set_option maxHeartbeats 8000000 in
theorem cycleR_top (T : List (List Bool)) (n cT : Nat) (qT : Option Addr) (hn : n ≤ 1000) (hrows : ∀ r ∈ T, r.length = n) (d N : Nat) (w : World) (h : SlR encb 1 w qT n T) (hN : d + 1 = N) (hN1 : N ≤ 1000) :
    Calls Try.prog 88 #[.slice qT n cT, .slice none 0 0, .int .i64 N] w (CycB (fne (fun f => cycR (edg T) n d [f]) 0 n) w.heap.size w) := by
  obtain ⟨i0, hi, hz0, hz1, hz2⟩ := info_parts info_I64
  have hNm : ((0 : Int) == (N : Int)) = false := by simp; omega
  have hNm2 : decide ((0 : Int) = (N : Int)) = false := by simp; omega
  have ih := hid (cycleR_any T n cT qT hn hrows w.heap.size d)
  have hTl := hid h.length
  have h0 := hid h
  obtain ⟨R, hR⟩ : ∃ R, R = fne (fun f => cycR (edg T) n d [f]) 0 n := ⟨_, rfl⟩
  rw [← hR]
  have hr : Hid (R = fne (fun f => cycR (edg T) n d [f]) 0 (n - 0)) := hR
  replace hN := hid hN
  clear hR
  go_enter Try.func88, Try.ntmps88
  go_wp2
  go_loopw [7] (fun ik wr => ∃ k : Nat, k ≤ n ∧ ik = .int .i64 k ∧ Hid (Ext w wr) ∧ Hid (R = fne (fun f => cycR (edg T) n d [f]) k (n - k))) (fun i _ => n - (intOf i).toNat)
  case atStart => exact ⟨0, by omega, by go_num, Ext.refl _, hr⟩
  case round =>
    clear hr
    obtain ⟨k, hk2, rfl, hE, hr⟩ := hrel
    by_cases hlt : k < n
    · have hltI : (k : Int) < (n : Int) := by omega
      go_wp2
      go_loopw [8, 9] (fun iu ij wj => ij = .int .i64 0 ∧ iu = .bool false ∧ wj = wr) (fun _ i _ => 0)
      case atStart => exact ⟨rfl, rfl, rfl⟩
      case round =>
        obtain ⟨rfl, rfl, rfl⟩ := hrel
        have hnk : n - k = (n - (k + 1)) + 1 := by omega
        have hpa := hid (Pa.one (e := edg T) (n := n) hlt)
        have hr1 : Hid (R = fne (fun f => cycR (edg T) n d [f]) k ((n - (k + 1)) + 1)) := by show _ = _; rw [hr.out, ← hnk]
        have oe := hid (show (World.alloc _ (.cells #[] 2)).ownsRow _ 2 1 (.slice (some ⟨_, 0, none⟩) 0 0) 0 [] from World.ownsRow_made (base := wr.heap.size) (e := 2) (size := 1) wr #[] 0 (by simp) (by simp [maxLen]) (by simp))
        have hbw := hE.out.le
        replace hnk := hid hnk
        clear hr
        go_wp2_with (at_builtin; first | (refine Lib.wpList_append_run _ rfl (.tmp 72) (.tmp 73) 41 41 rfl (.slice (some ⟨wr.heap.size, 0, none⟩) 0 0) (.slice none 0 0) rfl rfl (.slice (some ⟨wr.heap.size, 0, none⟩) 0 0) _ (run_append_nil0 _ ⟨wr.heap.size, 0, none⟩ _) ?_) | (refine wpList_append_own_at _ rfl _ _ 41 rfl wr.heap.size 2 i0 (.int .i64 0) 1 8 Try.underlying41 hi hz0 hz1 hz2 rfl (by omega) _ _ _ rfl (oe.out.alloc _) ⟨_, 0, none⟩ 1 1 [.int .i64 k] rfl rfl (cells_new1b _ _ _ _) (one_int1 _) (len_le (by omega) (by omega)) (by omega) (by simp; omega) ?_; intro v' w9 ho' hg' _ hb'; obtain ⟨qa, ca, rfl⟩ := owns_forms ho'; replace ho' := hid ho'; replace hg' := hid hg'; clear hb'; have hE9 := hid (((hE.out.alloc (.cells #[] 2)).alloc (.cells #[.int .i64 k] 2)).grown hg'.out (fun g hg => Nat.le_trans hbw (oe.out.lt g hg).1)); have ho9 := hid (app_flat (p := []) (owns_lowP ho'.out hbw)); have hb9 := hE9.out.le; clear hg' ho'))
        refine (ih.out [k] qa 0 ca N _ (h0.out.ext hE9.out) hpa.out rfl (by have := hN.out; omega) hN1 ho9.out hb9).mono ?_
        rintro e w10 ⟨q10, c10, rfl, hq0, o10, E10⟩
        obtain ⟨S, hS⟩ : ∃ S, S = cycR (edg T) n d [k] := ⟨_, rfl⟩
        rw [← hS] at hq0 o10 ⊢
        have hE10 := hid (hE9.out.trans E10)
        by_cases hR0 : S = []
        · have hq1 := hq0 hR0
          subst hq1
          have hr2 : Hid (R = fne (fun f => cycR (edg T) n d [f]) (k + 1) (n - (k + 1))) := by
            show _ = _
            rw [hr1.out, fne_skip (hS.symm.trans hR0)]
          subst hR0
          replace hS := hid hS
          replace o10 := hid o10
          replace hq0 := hid hq0
          clear hr1 E10
          go_wp2_with fail
          go_roundw
          case rel => exact ⟨k + 1, by omega, by go_num, hE10, hr2⟩
          case measure => simp [intOf]; omega
        · have hRl : (0 : Int) < (S.length : Int) := by have := List.length_pos_iff.2 hR0; omega
          have hr2 : Hid (R = S) := by
            show _ = _
            rw [hr1.out, fne_hit (fun h9 => hR0 (hS.trans h9))]
            exact hS.symm
          replace hS := hid hS
          have hR0 := hid hR0
          replace o10 := hid o10
          replace hq0 := hid hq0
          clear hr1 E10
          go_wp2_with fail
          go_ret
          rw [hr2.out]
          exact ⟨_, c10, rfl, hq0.out, o10.out, hE10.out⟩
    · have hltI : ¬ (k : Int) < (n : Int) := by omega
      have hr2 : Hid (R = []) := by show _ = _; rw [hr.out, show n - k = 0 by omega, fne]
      go_wp2
      go_ret
      exact CycB.nil hr2.out hE.out
end Go.Proofs.Ytaigndaabmelhaa
