/- The law FnCriticalPath returns true at every code. Condition: none but what a slice's length can be. -/
import Derived.Test.YtnhiepgfgnemkaaSlw
namespace Go.Proofs.Ytnhiepgfgnemkaa
open Go.RowKit

theorem fx_att (f : Int → Int) (i : Int) : ∀ (E : List Q3) (m : Int), fx E f i m = m ∨ ∃ e ∈ E, e.b = i ∧ fx E f i m = f e.a + e.c
  | [], m => Or.inl rfl
  | e :: E, m => by
    rw [fx_cons]
    rcases fx_att f i E (if e.b = i then max m (f e.a + e.c) else m) with h | ⟨e', h1, h2, h3⟩
    · rw [h]
      split
      · rename_i hb
        rcases Int.le_total m (f e.a + e.c) with h4 | h4
        · exact Or.inr ⟨e, by simp, hb, by omega⟩
        · exact Or.inl (by omega)
      · exact Or.inl rfl
    · exact Or.inr ⟨e', List.mem_cons_of_mem _ h1, h2, h3⟩
theorem foldl_max_att {α : Type} (h : α → Int) : ∀ (L : List α) (m : Int), L.foldl (fun m y => max m (h y)) m = m ∨ ∃ y ∈ L, L.foldl (fun m y => max m (h y)) m = h y
  | [], m => Or.inl rfl
  | x :: L, m => by
    rw [List.foldl_cons]
    rcases foldl_max_att h L (max m (h x)) with h1 | ⟨y, h1, h2⟩
    · rw [h1]
      rcases Int.le_total m (h x) with h4 | h4
      · exact Or.inr ⟨x, by simp, by omega⟩
      · exact Or.inl (by omega)
    · exact Or.inr ⟨y, List.mem_cons_of_mem _ h1, h2⟩
/-- Widths and gaps along a list of blocks. -/
def ps (l : List Q4) (g : Int) : List Int → Int
  | [] => 0
  | a :: r => ((bA l a).c + g) + ps l g r
theorem ps_append (l : List Q4) (g : Int) : ∀ A B, ps l g (A ++ B) = ps l g A + ps l g B
  | [], B => by simp [ps]
  | a :: A, B => by rw [List.cons_append, ps, ps, ps_append l g A B]; omega
theorem ps_reverse (l : List Q4) (g : Int) : ∀ A, ps l g A.reverse = ps l g A
  | [] => rfl
  | a :: A => by rw [List.reverse_cons, ps_append, ps_reverse l g A, ps, ps, ps]; omega
section
variable {l : List Q4} {g : Int} (hl : isBL l = true) (hg : wit g 0 8 = true)
include hl hg
theorem ps_bd : ∀ A, 0 ≤ ps l g A ∧ ps l g A ≤ 48 * A.length
  | [] => by simp [ps]
  | a :: A => by have := ps_bd A; have := bA_btw hl a; have := wit_iff.1 hg; rw [ps, List.length_cons]; omega
theorem chain_facts : ∀ (k j : Nat), j < l.length → rk l j < k → slackF l g j = 0 →
    (∀ x ∈ chain (csL l g) (posF l g) k j, ∃ i : Nat, x = i ∧ i < l.length ∧ slackF l g i = 0) ∧ chain (csL l g) (posF l g) k j ≠ [] ∧ ps l g (chain (csL l g) (posF l g) k j) = posF l g j + (bA l j).c + g
  | 0, j, _, hr, _ => by omega
  | k + 1, j, hj, hr, hs => by
    have h0 : (0 : Int) ≤ j := by omega
    cases hf : (csL l g).find? (tightC (posF l g) j) with
    | none =>
      rw [chain_end h0 hf]
      have hp : posF l g j = 0 := by
        have hF : posF l g j = fx (csL l g) (posF l g) j 0 := pass_is (b := fun _ => 0) (csL_topo l g) j ((ltr_is l).perm.mem_iff.2 (mem_upto hj))
        rcases fx_att (posF l g) j (csL l g) 0 with h | ⟨e, h1, h2, h3⟩
        · rw [hF, h]
        · have h4 := List.find?_eq_none.1 hf e h1
          exfalso; apply h4
          rw [tightC, decide_eq_true h2, decide_eq_true (by rw [hF, h3])]; rfl
      refine ⟨fun x hx => ?_, by simp, ?_⟩
      · simp at hx; exact ⟨j, hx, hj, hs⟩
      · rw [ps, ps, hp]; omega
    | some e =>
      rw [chain_step h0 hf]
      have he := List.mem_of_find?_eq_some hf
      have ht := List.find?_some hf
      rw [tightC, Bool.and_eq_true, decide_eq_true_iff, decide_eq_true_iff] at ht
      obtain ⟨hb, hx⟩ := ht
      obtain ⟨⟨i, hi, hil⟩, -, -, -⟩ := csL_edge hl hg e he
      have h1 := rk_edge he
      have h2 := lat_edge he
      have h3 := lat_upper hl hg hil
      have hc : e.c = (bA l e.a).c + g := by
        obtain ⟨i', hi', k', hk', -, he'⟩ := csL_mem.1 he
        rw [one_mem he']
      rw [slackF] at hs
      rw [hb] at h1 h2
      rw [hi] at h1 h2 hx hc ⊢
      obtain ⟨a1, a2, a3⟩ := chain_facts k i hil (by omega) (by rw [slackF]; omega)
      refine ⟨fun x hx' => ?_, by simp, ?_⟩
      · rcases List.mem_cons.1 hx' with rfl | hx'
        · exact ⟨j, rfl, hj, by rw [slackF]; omega⟩
        · exact a1 x hx'
      · rw [ps, a3]; omega
theorem crit_facts : (∀ x ∈ critF l g, ∃ i : Nat, x = i ∧ i < l.length ∧ slackF l g i = 0) ∧ (critF l g = [] ↔ l.length = 0) ∧ (l.length ≠ 0 → ps l g (critF l g) = widF l g + g) := by
  by_cases hn : l.length = 0
  · have : critF l g = [] := by rw [critF, hn]; rfl
    rw [this]
    exact ⟨(fun x hx => by cases hx), iff_of_true rfl hn, fun h => absurd hn h⟩
  · have hat : ∃ j : Nat, atF l (posF l g) (widF l g) = j ∧ j < l.length ∧ posF l g j + (bA l j).c = widF l g := by
      rcases idx_cases (hitW l (posF l g) (widF l g)) (upto l.length) with ⟨h1, h2, -⟩ | ⟨j, e, h1, h2, h3, -, -⟩
      · exfalso
        rw [List.find?_eq_none] at h2
        have hw := widB_eq l (posF l g)
        rcases foldl_max_att (fun y : Q4 × Int => y.2 + y.1.c) (l.zip (tab l.length (posF l g))) 0 with h | ⟨y, hy, h⟩
        · have h3 := wid_ge (posF l g) (show 0 < l.length by omega)
          have h4 := posF_btw hl hg (0 : Nat)
          have h5 := wid_bd hl (show 0 < l.length by omega)
          rw [hw, h] at h3; omega
        · obtain ⟨i, hi, rfl⟩ := zip_tab.1 hy
          apply h2 i (mem_upto hi)
          rw [hitW, widF, hw, h]; simp
      · have hj : j < l.length := by have := (List.getElem?_eq_some_iff.1 h2).1; rwa [upto_len] at this
        have he : e = (j : Int) := by simp [upto, hj] at h2; exact h2.symm
        subst he
        exact ⟨j, h1, hj, by simpa [hitW] using h3⟩
    obtain ⟨j, h1, hj, h2⟩ := hat
    have h3 := lat_lower (g := g) hj
    have h4 := lat_upper hl hg hj
    obtain ⟨a1, a2, a3⟩ := chain_facts hl hg l.length j hj (rk_lt hj) (by rw [slackF]; omega)
    refine ⟨fun x hx => ?_, ?_, fun _ => ?_⟩
    · rw [critF, h1, List.mem_reverse] at hx; exact a1 x hx
    · rw [critF, h1, List.reverse_eq_nil_iff]; exact ⟨fun h => absurd h a2, fun h => absurd h hn⟩
    · rw [critF, h1, ps_reverse, a3]; omega
theorem pos_widR : widthR l (tab l.length (posF l g)) = widF l g := by
  have h := pos_comp hl hg
  rw [compB, Bool.and_eq_true, Bool.and_eq_true] at h
  rw [widthR, hl, h.2.1]; rfl
end
/-- The sum after k blocks. -/
def prt (l : List Q4) (g : Int) (p : List Int) (k : Nat) : Int := if k = 0 then 0 else ps l g (p.take k) - g
theorem prt_step {l : List Q4} {g : Int} {p : List Int} {k : Nat} {x : Int} (h : p[k]? = some x) : prt l g p (k + 1) = (if k = 0 then prt l g p k else prt l g p k + g) + (bA l x).c := by
  rw [prt, prt, if_neg (by omega), take_snoc h, ps_append, ps, ps]
  split
  · rename_i h0; subst h0; simp [ps]
  · omega
theorem drawCriticalPath_any (q : Option Addr) (n c : Nat) (l : List Int) (w : World) (h : SlT encU 1 w q n l) (hu : ∀ x ∈ l, 0 ≤ x ∧ x ≤ 255) (hn : n ≤ 1048576) :
    Calls Try.prog 42 #[.slice q n c] w (DrawnC w) := by
  go_enter Try.func42, Try.ntmps42
  go_wp2_with fail
  refine (drawConstraints_any q n c l _ h hu hn).mono ?_
  rintro e w1 ⟨p, d, bl, g, rfl, h1⟩
  go_wp2_with fail
  go_ret2
  exact ⟨p, d, bl, g, rfl, h1⟩
set_option maxRecDepth 100000 in
set_option maxHeartbeats 8000000 in
theorem fnCriticalPath_any (q : Option Addr) (n c : Nat) (l : List Int) (w : World) (h : SlT encU 1 w q n l) (hu : ∀ x ∈ l, 0 ≤ x ∧ x ≤ 255) (hm : n ≤ maxLen) :
    Calls Try.prog 11 #[.slice q n c] w fun e w' => e = .returned (.bool true) ∧ Ext w w' := by
  unfold maxLen at hm
  have hbig := big_any q n c w hm
  go_enter Try.func11, Try.ntmps11
  by_cases hn : 4096 < (n : Int)
  · rw [decide_eq_true hn] at hbig
    go_wp2_with fail
    refine hbig.mono ?_
    rintro e w' ⟨rfl, rfl⟩
    go_wp2_with fail
    go_ret
    exact ⟨rfl, Ext.refl _⟩
  · rw [decide_eq_false hn] at hbig
    go_wp2_with fail
    refine hbig.mono ?_
    clear hbig
    rintro e w' ⟨rfl, rfl⟩
    go_wp2_with fail
    refine (drawCriticalPath_any q n c l _ h hu (by omega)).mono ?_
    rintro e w1 ⟨p, d, bl, g, rfl, hbl, hsm, hg0, hg1, hs1, E1⟩
    obtain ⟨N, hN⟩ : ∃ N, N = bl.length := ⟨_, rfl⟩
    rw [← hN] at hbl hs1 ⊢
    have hNI : (N : Int) ≤ 14 := by omega
    replace hN := hid hN
    replace hsm := hid hsm
    replace hu := hid hu
    by_cases hok : isBL bl = true ∧ wit g 0 8 = true
    · obtain ⟨hl, hg⟩ := hok
      have hcf := crit_facts hl hg
      obtain ⟨hc1, hc2, hc3⟩ := hcf
      have hpw := hid (pos_widR hl hg)
      have hgb := wit_iff.1 hg
      obtain ⟨hgb0, hgb1⟩ := hgb
      rw [← hN.out] at hc1 hc2 hc3 hpw
      have hml : (critF bl g).length ≤ 14 := by
        have := chain_len (csL bl g) (posF bl g) bl.length (atF bl (posF bl g) (widF bl g))
        rw [critF, List.length_reverse]; have := hN.out; omega
      have hwf0 : N = 0 → widF bl g = 0 := fun h0 => by
        have h1 : bl.length = 0 := by rw [← hN.out]; exact h0
        have h2 : bl = [] := List.length_eq_zero_iff.1 h1
        rw [h2]; rfl
      replace hl := hid hl
      replace hg := hid hg
      go_wp2_with fail
      refine (CriticalPath_ok p N d bl g _ hs1 hl.out hg.out).mono ?_
      rintro e w2 ⟨qp, cp, rfl, op, E2⟩
      have sP : SlT enc1 1 w2 qp (critF bl g).length (critF bl g) := by rw [ints, ← flat1] at op; exact SlT.of_owns enc1_len rfl op
      clear op
      go_wp2_with fail
      refine (SlackOf_ok p N d bl g _ (hs1.ext E2) hl.out hg.out).mono ?_
      rintro e w3 ⟨qs, cs, rfl, os, E3⟩
      have sS := tab_SlT os
      clear os
      go_wp2_with fail
      refine (Compact_ok p N d bl g _ (hs1.ext (E2.trans E3)) hl.out hg.out).mono ?_
      rintro e w4 ⟨qx, cx, rfl, ox, E4⟩
      have sX := hid (tab_SlT ox)
      replace sS := hid (sS.ext E4)
      replace sP := hid (sP.ext (E3.trans E4))
      have hs4 := hid (hs1.ext (E2.trans (E3.trans E4)))
      have E04 := hid (E1.trans (E2.trans (E3.trans E4)))
      clear ox E1 E2 E3 E4 hs1
      obtain ⟨PT, hPT⟩ : ∃ PT, PT = critF bl g := ⟨_, rfl⟩
      rw [← hPT] at hc1 hc2 hc3 hml sP ⊢
      replace hPT := hid hPT
      obtain ⟨m, hmP⟩ : ∃ m, m = PT.length := ⟨_, rfl⟩
      rw [← hmP] at hml sP ⊢
      have hz : Hid (m = 0 ↔ N = 0) := by show _ ↔ _; rw [hmP, List.length_eq_zero_iff]; exact hc2
      replace hc1 := hid hc1
      replace hc3 := hid hc3
      replace hmP := hid hmP
      replace hwf0 := hid hwf0
      have hmI : (m : Int) ≤ 14 := by omega
      clear hc2
      have hb1 : ((m : Int) == 0) = ((N : Int) == 0) := by
        rw [Bool.eq_iff_iff]; simp only [beq_iff_eq]; have := hz.out; omega
      have hb2 : (((m : Int) == 0) != ((N : Int) == 0)) = false := by rw [hb1]; simp
      have hwt := fun W (hE : Ext w4 W) => WidthOf_any p qx N N d cx bl (tab N (posF bl g)) W (hs4.out.ext hE) (sX.out.ext hE) (by omega) (by omega)
      rw [hpw.out] at hwt
      replace hwt := hid hwt
      rcases Nat.eq_zero_or_pos N with hN0 | hNp
      · subst hN0
        have hm0 : m = 0 := hz.out.2 rfl
        subst hm0
        have hw0 := hwf0.out rfl
        rw [hw0] at hwt
        clear hb1 hb2
        go_wp2_with fail
        refine wp_loop_once ?_
        go_wp2_with fail
        refine (hwt.out _ (Ext.refl _)).mono ?_
        rintro e w5 ⟨rfl, E5⟩
        go_wp2_with fail
        go_ret
        exact ⟨ret_bool (by simp), E04.out.trans E5⟩
      · have hmp : 0 < m := by have := hz.out; omega
        have e1 : ((m : Int) == 0) = false := by simp; omega
        have e2 : ((N : Int) == 0) = false := by simp; omega
        clear hb1 hb2
        go_wp2_with fail
        go_loopw [11, 12] (fun t i wr => ∃ k : Nat, k ≤ m ∧ i = .int .i64 k ∧ t = .int .i64 (prt bl g PT k) ∧ Ext w4 wr) (fun _ i _ => m - (intOf i).toNat)
        case atStart => exact ⟨0, by omega, rfl, rfl, Ext.refl _⟩
        case round =>
          obtain ⟨k, hk, rfl, rfl, hX⟩ := hrel
          by_cases hkm : k < m
          · have hkI : (k : Int) < m := by omega
            obtain ⟨bp, op, x, rfl, hbp, hx, x0⟩ := sP.out.int hkm
            obtain ⟨j, hxj, hjN, hsl⟩ := hc1.out x (List.mem_of_getElem? hx.out)
            subst hxj
            obtain ⟨bs, os, rfl, hbs, s0⟩ := sS.out.tab hjN
            obtain ⟨bb, ob, xk, rfl, hbb, hxk, m0, m1, m2, m3⟩ := hs4.out.four hjN
            rw [hsl] at s0
            have hst := hid (prt_step (l := bl) (g := g) hx.out)
            have hw1 := wid_bd hl.out (k := j) (by rw [← hN.out]; exact hjN)
            rw [bA_at hxk.out] at hw1 hst
            obtain ⟨u1, u2⟩ := hw1
            have hpb : -8 ≤ prt bl g PT k ∧ prt bl g PT k ≤ 700 := by
              have h1 := ps_bd hl.out hg.out (PT.take k)
              have h2 : (PT.take k).length ≤ k := List.length_take_le _ _
              rw [prt]; split <;> omega
            obtain ⟨S, hS⟩ : ∃ S, S = prt bl g PT k := ⟨_, rfl⟩
            rw [← hS] at hpb hst ⊢
            replace hS := hid hS
            obtain ⟨hp0, hp1⟩ := hpb
            replace x0 := (hX.cells _ _ hbp).trans x0
            replace s0 := (hX.cells _ _ hbs).trans s0
            replace m2 := (hX.cells _ _ hbb).trans m2
            have hj0 : (0 : Int) ≤ j := by omega
            have hjI : (j : Int) < N := by omega
            have hj1 : ¬ ((j : Int) < 0) := by omega
            have hj2 : ¬ ((N : Int) ≤ j) := by omega
            clear m0 m1 m3 hsl
            by_cases hk0 : k = 0
            · subst hk0
              have hst2 : Hid (prt bl g PT (0 + 1) = S + xk.c) := by show _ = _; rw [hst.out, if_pos rfl]
              simp only [Nat.add_zero] at x0
              rw [show ((0 : Nat) : Int) = 0 from rfl]
              go_wp2_with fail
              go_roundw
              case rel => exact ⟨1, by omega, rfl, by rw [show (1 : Nat) = 0 + 1 from rfl, hst2.out], hX⟩
              case measure => simp [intOf]; omega
            · have hst2 : Hid (prt bl g PT (k + 1) = S + g + xk.c) := by show _ = _; rw [hst.out, if_neg hk0]
              have hkp : (0 : Int) < k := by omega
              go_wp2_with fail
              go_roundw
              case rel => exact ⟨k + 1, by omega, by go_num, by rw [hst2.out], hX⟩
              case measure => simp [intOf]; omega
          · have hkk : k = m := by omega
            have hfin : prt bl g PT k = widF bl g := by
              rw [prt, if_neg (by omega), List.take_of_length_le (by rw [hkk, hmP.out]; exact Nat.le_refl _), hc3.out (by omega)]; omega
            rw [hfin]
            clear hfin
            go_wp2_with fail
            refine (hwt.out _ hX).mono ?_
            rintro e w5 ⟨rfl, E5⟩
            go_wp2_with fail
            go_ret
            exact ⟨ret_bool (by simp), E04.out.trans (hX.trans E5)⟩
    · have hk := codeB_bad hok
      have hc0 := CriticalPath_bad p N d bl g w1 hs1 (by omega) hok
      have hc1 := fun W (hE : Ext w1 W) => SlackOf_bad p N d bl g W (hs1.ext hE) (by omega) hok
      have hc2 := fun W (hE : Ext w1 W) => Compact_bad p N d bl g W (hs1.ext hE) (by omega) hk
      obtain ⟨K, hK⟩ : ∃ K, K = codeB bl g := ⟨_, rfl⟩
      rw [← hK] at hc0 hc1 hc2 hk
      replace hK := hid hK
      have hd : (K != 0) = true := by simpa using hk
      replace hc1 := hid hc1
      replace hc2 := hid hc2
      go_wp2_with fail
      refine hc0.mono ?_
      clear hc0
      rintro e w2 ⟨rfl, E2⟩
      go_wp2_with fail
      refine (hc1.out _ E2).mono ?_
      rintro e w3 ⟨rfl, E3⟩
      go_wp2_with fail
      refine (hc2.out _ (E2.trans E3)).mono ?_
      rintro e w4 ⟨p', d', rfl, E4⟩
      go_wp2_with fail
      go_ret
      exact ⟨ret_bool (by simp), E1.trans (E2.trans (E3.trans E4))⟩
end Go.Proofs.Ytnhiepgfgnemkaa
