/- Contracts of the reference's Union; the plain law of FnDetour. Condition: at most 2^20 rectangles. -/
import Derived.Test.YthdilndfcdpeiaaRct
import Derived.Test.YthdilndfcdpeiaaSpd
namespace Go.Proofs.Ythdilndfcdpeiaa
open Go.RowKit

def combG (g h : Grid) : Grid := fun i => g i || h i
theorem gh_comb (g h : Grid) (x y : Int) : gh (combG g h) x y = (gh g x y || gh h x y) := by
  rw [gh, gh, gh, combG]; cases onC x y <;> simp
/-- The first m flags. -/
def cmb (g h : Grid) (m : Nat) : Grid := fun i => decide (i < m) && (g i || h i)
theorem cmb_zero (g h : Grid) : List.replicate 6400 (Value.bool false) = gcells (cmb g h 0) := by rw [← gcells_none]; exact gcells_ext fun i _ => by simp [gnone, cmb]
theorem cmb_all (g h : Grid) : gcells (cmb g h 6400) = gcells (combG g h) := gcells_ext fun i hi => by rw [cmb, combG]; simp [hi]
theorem cmb_set (g h : Grid) (m : Nat) : (gcells (cmb g h m)).set m (.bool (g m || h m)) = gcells (cmb g h (m + 1)) := by
  rw [gcells_set]
  refine gcells_ext fun i _ => ?_
  rw [gset, cmb, cmb]
  by_cases e : i = m
  · subst e; simp
  · rw [if_neg e]
    congr 1
    rw [decide_eq_decide]; omega
set_option maxRecDepth 100000 in
set_option maxHeartbeats 8000000 in
theorem l04Combine_any (B1 B2 c1 c2 : Nat) (g h : Grid) (w : World) (b1 : Bits w B1 g) (b2 : Bits w B2 h) :
    Calls Try.prog 120 #[.slice (some ⟨B1, 0, none⟩) 6400 c1, .slice (some ⟨B2, 0, none⟩) 6400 c2, .int .i64 14] w (BitsB (combG g h) w) := by
  obtain ⟨j0, hj, hy0, hy1, hy2⟩ := info_parts info_Bool
  have hb1 := hid b1
  have hb2 := hid b2
  clear b1 b2
  go_enter Try.func120, Try.ntmps120
  go_wp2_with (refine wpList_make_full _ rfl _ _ 80 rfl w.heap.size 4 j0 _ 1 Try.underlying80 hj hy0 hy1 .i64 .i64 6400 6400 6400 rfl rfl rfl rfl (by rw [hy2]; omega) (by unfold maxLen; omega) (by simp) ?_; intro w1 ho hg)
  rw [made_const _ (.bool false) _ (by simp [Value.cells]) (by intro j hj; simp [Value.cells] at hj ⊢; subst hj; rfl), cmb_zero g h] at ho
  have hE : Ext w w1 := (Ext.refl _).grown hg (fun _ h => by cases h)
  clear hg
  obtain ⟨N, hN⟩ : ∃ N, N = w.heap.size := ⟨_, rfl⟩
  rw [← hN] at ho ⊢
  have hNw : w.heap.size ≤ N := by omega
  replace hN := hid hN
  replace ho := hid ho
  go_loopw [8, 9] (fun i _ wr => ∃ k : Nat, k ≤ 6400 ∧ i = .int .i64 k ∧ Hid (wr.ownsRow N 4 1 (.slice (some ⟨N, 0, none⟩) 6400 6400) 6400 (gcells (cmb g h k))) ∧ Ext w wr) (fun i _ _ => 6400 - (intOf i).toNat)
  case atStart => exact ⟨0, by omega, rfl, ho, hE⟩
  case round =>
    clear ho hE
    obtain ⟨k, hk, rfl, ho, hE⟩ := hrel
    by_cases hlt : k < 6400
    · have hkI : (k : Int) < 6400 := by omega
      have z1 := (hb1.out.ext hE).2 k hlt
      have z2 := (hb2.out.ext hE).2 k hlt
      have l1 := (hb1.out.ext hE).1
      have l2 := (hb2.out.ext hE).1
      obtain ⟨v0, e0⟩ := owns_cell ho.out k (by omega)
      have hf := owns_free ho.out
      have hst := cmb_set g h k
      have hNl := (owns_lt ho.out).2
      cases hg : g k <;> cases hh : h k
      all_goals
        rw [hg] at z1
        rw [hh] at z2
        rw [hg, hh] at hst
        have hst := hid hst
        clear hg hh
        go_wp2
        go_roundw
        case rel => exact ⟨k + 1, by omega, by go_num, hid (by rw [← hst.out]; exact owns_set ho.out _ _), hE.setCell (p := ⟨N, k, none⟩) hNw _⟩
        case measure => simp [intOf] <;> omega
    · have hkI : ¬ (k : Int) < 6400 := by omega
      have h64 : k = 6400 := by omega
      have ho2 := ho.out
      rw [h64, cmb_all] at ho2
      replace ho2 := hid ho2
      clear ho h64
      go_wp2_with fail
      go_ret
      exact ⟨N, rfl, by have := hN.out; rw [← this]; exact ho2.out, hE⟩
set_option maxHeartbeats 4000000 in
theorem specUnion_any (q1 q2 : Option Addr) (n1 n2 c1 c2 : Nat) (l1 l2 : List Q4) (w : World) (h1 : SlT enc4 4 w q1 n1 l1) (h2 : SlT enc4 4 w q2 n2 l2) (hn1 : n1 ≤ 1048576) (hn2 : n2 ≤ 1048576) (r1 : isReg l1 = true) (r2 : isReg l2 = true) :
    Calls Try.prog 45 #[.slice q1 n1 c1, .slice q2 n2 c2] w fun e w' => ∃ q c, e = .returned (.slice q (canon (combG (gL l1) (gL l2))).length c) ∧ SlT enc4 4 w' q (canon (combG (gL l1) (gL l2))).length (canon (combG (gL l1) (gL l2))) ∧ Ext w w' := by
  have hb : ∀ W, Ext w W → Calls Try.prog 101 #[.slice q1 n1 c1, .slice q2 n2 c2] W fun e w' => e = .returned (.bool true) ∧ Ext W w' := by
    intro W hW
    have k1 := fun V (hV : Ext W V) => l03Ok_any q1 n1 c1 l1 V ((h1.ext hW).ext hV) hn1
    have k2 := fun V (hV : Ext W V) => l03Ok_any q2 n2 c2 l2 V ((h2.ext hW).ext hV) hn2
    rw [r1] at k1
    rw [r2] at k2
    replace k1 := hid k1
    replace k2 := hid k2
    go_enter Try.func101, Try.ntmps101
    go_wp2_with fail
    refine (k1.out _ (Ext.refl _)).mono ?_
    rintro e w1 ⟨rfl, E1⟩
    go_wp2_with fail
    refine (k2.out _ E1).mono ?_
    rintro e w2 ⟨rfl, E2⟩
    go_wp2_with fail
    go_ret
    exact ⟨rfl, E1.trans E2⟩
  have ho : ∀ W, Ext w W → Calls Try.prog 102 #[.slice q1 n1 c1, .slice q2 n2 c2, .int .i64 14] W (RegB (canon (combG (gL l1) (gL l2))) W) := by
    intro W hW
    have v1 := hid (vRs_parts (isReg_iff.1 r1).1).2
    have v2 := hid (vRs_parts (isReg_iff.1 r2).1).2
    go_enter Try.func102, Try.ntmps102
    go_wp2_with fail
    refine (l03Bits_any q1 n1 c1 l1 _ (h1.ext hW) hn1 v1.out).mono ?_
    rintro e w1 ⟨B1, rfl, o1, E1⟩
    have t1 := hid (Bits.of o1)
    clear o1
    go_wp2_with fail
    refine (l03Bits_any q2 n2 c2 l2 _ ((h2.ext hW).ext E1) hn2 v2.out).mono ?_
    rintro e w2 ⟨B2, rfl, o2, E2⟩
    have t2 := hid (Bits.of o2)
    have t1 := hid (t1.out.ext E2)
    clear o2
    go_wp2_with fail
    refine (l04Combine_any B1 B2 _ _ _ _ _ t1.out t2.out).mono ?_
    rintro e w3 ⟨B3, rfl, o3, E3⟩
    have t3 := hid (Bits.of o3)
    clear o3
    go_wp2_with fail
    refine (l03Canon_any B3 _ _ _ t3.out).mono ?_
    rintro e w4 ⟨q4, c4, rfl, o4, E4⟩
    have hO := hid o4
    have hE := hid (E1.trans (E2.trans E3))
    clear o4 E1 E2 E3
    go_wp2_with fail
    go_ret
    exact ⟨q4, c4, rfl, owns_low hO.out hE.out.le, hE.out.trans E4⟩
  have hb := hid hb
  have ho := hid ho
  clear r1 r2
  go_enter Try.func45, Try.ntmps45
  go_wp2_with fail
  refine (hb.out _ (Ext.refl _)).mono ?_
  rintro e w1 ⟨rfl, E1⟩
  go_wp2_with fail
  refine (ho.out _ E1).mono ?_
  rintro e w2 ⟨q2', c2', rfl, o2, E2⟩
  have s2 := hid (SlT.of_owns (l := canon (combG (gL l1) (gL l2))) enc4_len rfl o2)
  clear o2
  go_wp2_with fail
  go_ret
  exact ⟨q2', c2', rfl, s2.out, E1.trans E2⟩
/-- Blocking more unit cells never makes a route shorter. -/
theorem detour_law {l m : List Q4} {a b : Q2} (h1 : isReg l = true) : rdL (canon (combG (gL l) (gL m))) a b = -1 ∨ (0 ≤ rdL l a b ∧ rdL l a b ≤ rdL (canon (combG (gL l) (gL m))) a b ∧ a.a - b.a ≤ rdL l a b ∧ b.a - a.a ≤ rdL l a b) := by
  have hgh : ∀ x y, gh (gL (canon (combG (gL l) (gL m)))) x y = (gh (gL l) x y || gh (gL m) x y) := fun x y => by rw [gh_of_cells (gL_canon _), gh_comb]
  by_cases hc : srC (canon (combG (gL l) (gL m))) a b = 0
  · right
    obtain ⟨u1, ha, hb, hfa, hfb, h0⟩ := srC_iff.1 hc
    rw [hgh, Bool.or_eq_false_iff] at hfa hfb
    have hw := (bfs_wk (g := gL (canon (combG (gL l) (gL m)))) hb ((bfs (gL (canon (combG (gL l) (gL m)))) b).1 a).toNat a (by omega)).fewer (g' := gL l) (fun x y hx => by rw [hgh, hx]; rfl)
    have hle := wk_le hb hw
    have hc2 : srC l a b = 0 := srC_iff.2 ⟨h1, ha, hb, hfa.1, hfb.1, hle.1⟩
    have hfar := (bfs_wk (g := gL l) hb ((bfs (gL l) b).1 a).toNat a (by omega)).far
    rw [rdL, rdL, if_pos hc, if_pos hc2]
    omega
  · left
    rw [rdL, if_neg hc]
end Go.Proofs.Ythdilndfcdpeiaa
