/- Contract of FloodRegion (reference). Condition: at most 2^20 rectangles. -/
import Derived.Test.YthdilndfcdpeiaaCtn
import Derived.Test.YthdilndfcdpeiaaSpd
import Derived.Deep.RegionWith
namespace Go.Proofs.Ythdilndfcdpeiaa
open Go.RowKit

/-- The first k flags. -/
def ge0 (D : Q2 → Int) (k : Nat) : Grid := fun i => decide (i < k) && decide (0 ≤ D ⟨xOf i, yOf i⟩)
theorem ge0_zero (D : Q2 → Int) : List.replicate 6400 (Value.bool false) = gcells (ge0 D 0) := by rw [← gcells_none]; exact gcells_ext fun i _ => by simp [gnone, ge0]
theorem ge0_all (D : Q2 → Int) : gcells (ge0 D 6400) = gcells (gD D) := gcells_ext fun i hi => by rw [ge0, gD, gmk]; simp [hi]
theorem ge0_set (D : Q2 → Int) (k : Nat) : (gcells (ge0 D k)).set k (.bool (decide (0 ≤ D ⟨xOf k, yOf k⟩))) = gcells (ge0 D (k + 1)) := by
  rw [gcells_set]
  refine gcells_ext fun i _ => ?_
  rw [gset, ge0, ge0]
  by_cases e : i = k
  · subst e; simp
  · rw [if_neg e]
    congr 1
    rw [decide_eq_decide]; omega
theorem canonY_none {g : Grid} (h : ∀ x y, gh g x y = false) : ∀ (n : Nat) (y : Int), (40 - y).toNat ≤ n → canonY g y = []
  | 0, y, hn => canonY_stop (by omega)
  | n + 1, y, hn => by
    by_cases hy : y < 40
    · rw [canonY_step hy, canonY_none h n _ (by have := rowEnd_ge g y (y + 1); omega), band]
      have hr : runs g y = [] := by
        apply List.eq_nil_iff_forall_not_mem.2
        intro z hz
        have := (chg_mem g y (-40) z).1 hz
        exact this.2.2 (by rw [h, h])
      rw [hr]; rfl
    · exact canonY_stop (by omega)
theorem canon_none {g : Grid} (h : ∀ x y, gh g x y = false) : canon g = [] := canonY_none h _ _ (Nat.le_refl _)
theorem gh_gD (D : Q2 → Int) {x y : Int} (h : onC x y = true) : gh (gD D) x y = decide (0 ≤ D ⟨x, y⟩) := by rw [gD, gh_gmk _ h]
/-- What the reference tells. -/
theorem frL_dist {l : List Q4} {a : Q2} (h1 : isReg l = true) (h2 : onC a.a a.b = true) : frL l a = canon (gD (distF (gL l) a)) := by
  rw [frL, h1, h2, distF]
  cases h3 : gh (gL l) a.a a.b with
  | true =>
    rw [if_pos rfl]
    refine (canon_none fun x y => ?_).symm
    cases ho : onC x y with
    | true => rw [gh_gD _ ho]; simp
    | false => exact gh_off ho
  | false => simp
set_option maxRecDepth 100000 in
set_option maxHeartbeats 8000000 in
theorem specFloodRegion_any (q : Option Addr) (n c : Nat) (l : List Q4) (a : Q2) (w : World) (h : SlT enc4 4 w q n l) (hn : n ≤ 1048576) :
    Calls Try.prog 41 #[.slice q n c, .agg #[.int .i64 a.a, .int .i64 a.b]] w (RegB (frL l a) w) := by
  obtain ⟨j0, hj, hy0, hy1, hy2⟩ := info_parts info_Bool
  have hc1 := fun W (hW : Ext w W) => l03Ok_any q n c l W (h.ext hW) hn
  have hua := fun W => l09Unit_any a.a a.b W
  cases h1 : isReg l with
  | false =>
    have hr : Hid (frL l a = []) := by show _ = _; rw [frL, h1]; rfl
    rw [h1] at hc1
    clear h1
    replace hc1 := hid hc1
    replace hua := hid hua
    go_enter Try.func41, Try.ntmps41
    go_wp2_with fail
    generalize hW : w.alloc _ = W0
    obtain ⟨E0, z0, b0⟩ := boxes1 hW
    clear hW
    have gb := hid (show Blk W0 w.heap.size [.int .i64 a.a, .int .i64 a.b] _ from b0)
    clear b0
    replace z0 := hid z0
    refine (hc1.out _ E0).mono ?_
    rintro e w1 ⟨rfl, E1⟩
    go_wp2_with fail
    go_ret
    exact reg_none hr.out (E0.trans E1)
  | true =>
    have hvs := hid (vRs_parts (isReg_iff.1 h1).1).2
    rw [h1] at hc1
    cases h2 : onC a.a a.b with
    | false =>
      have hr : Hid (frL l a = []) := by show _ = _; rw [frL, h1, h2]; rfl
      rw [h2] at hua
      clear h1 h2
      replace hc1 := hid hc1
      replace hua := hid hua
      go_enter Try.func41, Try.ntmps41
      go_wp2_with fail
      generalize hW : w.alloc _ = W0
      obtain ⟨E0, z0, b0⟩ := boxes1 hW
      clear hW
      have gb := hid (show Blk W0 w.heap.size [.int .i64 a.a, .int .i64 a.b] _ from b0)
      clear b0
      replace z0 := hid z0
      refine (hc1.out _ E0).mono ?_
      rintro e w1 ⟨rfl, E1⟩
      have e0 := (gb.out.ext E1).cells 0
      have e1 := (gb.out.ext E1).cells 1
      simp only [List.getElem?_cons_zero, List.getElem?_cons_succ] at e0 e1
      have hb1 := (gb.out.ext E1).lt
      go_wp2_with fail
      refine (hua.out _).mono ?_
      rintro e w2 ⟨rfl, E2⟩
      replace E2 := E1.trans E2
      clear e0 e1 hb1
      go_wp2_with fail
      go_ret
      exact reg_none hr.out (E0.trans E2)
    | true =>
      have hon := hid h2
      have hr := hid (frL_dist h1 h2)
      rw [h2] at hua
      clear h1 h2
      replace hc1 := hid hc1
      replace hua := hid hua
      go_enter Try.func41, Try.ntmps41
      go_wp2_with fail
      generalize hW : w.alloc _ = W0
      obtain ⟨E0, z0, b0⟩ := boxes1 hW
      clear hW
      have gb := hid (show Blk W0 w.heap.size [.int .i64 a.a, .int .i64 a.b] _ from b0)
      clear b0
      replace z0 := hid z0
      refine (hc1.out _ E0).mono ?_
      rintro e w1 ⟨rfl, E1⟩
      have e0 := (gb.out.ext E1).cells 0
      have e1 := (gb.out.ext E1).cells 1
      simp only [List.getElem?_cons_zero, List.getElem?_cons_succ] at e0 e1
      have hb1 := (gb.out.ext E1).lt
      go_wp2_with fail
      refine (hua.out _).mono ?_
      rintro e w2 ⟨rfl, E2⟩
      replace E2 := E1.trans E2
      clear e0 e1 hb1
      have e0 := (gb.out.ext E2).cells 0
      have e1 := (gb.out.ext E2).cells 1
      simp only [List.getElem?_cons_zero, List.getElem?_cons_succ] at e0 e1
      have hb1 := (gb.out.ext E2).lt
      have hE2 := hid (E0.trans E2)
      clear E2
      go_wp2_with fail
      go_region_with (first | (go_at_call 64; refine (l03Bits_any q n c l _ (h.ext (hE2.out.trans (Ext.refl w2).drew)) hn hvs.out).mono ?_; rintro e w3 ⟨B, rfl, ob, E3⟩; have hbk := hid (Bits.of ob); have e0' := (E3.cells _ 0 hb1).trans e0; have e1' := (E3.cells _ 1 hb1).trans e1; have hb1' := Nat.lt_of_lt_of_le hb1 E3.le; have hE3 := hid ((Ext.refl w2).drew.trans E3); clear ob E3) | (go_at_call 92; refine (l32Distances_any B _ (gL l) a _ hbk.out hon.out).mono ?_; rintro e w4 ⟨DB, rfl, od, E4⟩; have hod := hid od; have hE4 := hid (hE2.out.trans (hE3.out.trans E4)); clear od E4))
      all_goals
        clear e0 e1 hb1
        have hwE := hE4.out.le
        go_wp2_with (refine wpList_make_full _ rfl _ _ 80 rfl w4.heap.size 4 j0 _ 1 Try.underlying80 hj hy0 hy1 .i64 .i64 6400 6400 6400 rfl rfl rfl rfl (by rw [hy2]; omega) (by unfold maxLen; omega) (by simp) ?_; intro w5 ho hg)
        rw [made_const _ (.bool false) _ (by simp [Value.cells]) (by intro j hj; simp [Value.cells] at hj ⊢; subst hj; rfl)] at ho
        have hE5 : Ext w w5 := hE4.out.grown hg (fun _ h => by cases h)
        have hd5 := hid (hod.out.kept hg (Or.inr (by simp [Value.ownBlock])))
        rw [ge0_zero (distF (gL l) a)] at ho
        have hDl := (owns_lt hod.out).2
        clear hg
        obtain ⟨N, hN⟩ : ∃ N, N = w4.heap.size := ⟨_, rfl⟩
        rw [← hN] at ho hDl hwE ⊢
        have ho := hid ho
        replace hN := hid hN
        obtain ⟨Df, hDf⟩ : ∃ Df, Df = distF (gL l) a := ⟨_, rfl⟩
        rw [← hDf] at ho hd5 hr
        replace hDf := hid hDf
        go_loopw [7] (fun i wr => ∃ k : Nat, k ≤ 6400 ∧ i = .int .i64 k ∧ wr.ownsRow w3.heap.size 2 1 (.slice (some ⟨DB, 0, none⟩) 6400 6400) 6400 (dcells Df) ∧ wr.ownsRow N 4 1 (.slice (some ⟨N, 0, none⟩) 6400 6400) 6400 (gcells (ge0 Df k)) ∧ Ext w wr) (fun i _ => 6400 - (intOf i).toNat)
        case atStart => exact ⟨0, by omega, rfl, hd5.out, ho.out, hE5⟩
        case round =>
          clear hd5 ho hE5
          obtain ⟨k, hk, rfl, hd, ho, hE⟩ := hrel
          by_cases hlt : k < 6400
          · have hkI : (k : Int) < 6400 := by omega
            have zd := hd.cellAt k (by omega)
            rw [dcells, List.getElem?_map, List.getElem?_range hlt] at zd
            simp only [Option.map_some] at zd
            obtain ⟨Dk, hDk⟩ : ∃ Dk, Dk = Df ⟨xOf k, yOf k⟩ := ⟨_, rfl⟩
            rw [← hDk] at zd
            have hst := ge0_set Df k
            rw [← hDk] at hst
            replace hst := hid hst
            replace hDk := hid hDk
            obtain ⟨v0, e0⟩ := owns_cell ho k (by omega)
            have hf := owns_free ho
            have hDl2 := (owns_lt hd).2
            have hd2 := hid hd
            have ho2 := hid ho
            have hne : Value.ownBlock (.slice (some ⟨DB, 0, none⟩) 6400 6400) ≠ some N := by simp [Value.ownBlock]; omega
            replace hne := hid hne
            clear hd ho
            go_wp2
            all_goals
              go_roundw
              case rel => exact ⟨k + 1, by omega, by go_num, owns_other hd2.out hne.out _ _, by rw [← hst.out]; exact owns_set ho2.out _ _, hE.setCell (p := ⟨N, k, none⟩) hwE _⟩
              case measure => simp [intOf] <;> omega
          · have hkI : ¬ (k : Int) < 6400 := by omega
            have h64 : k = 6400 := by omega
            rw [h64, ge0_all] at ho
            have hbt := hid (Bits.of ho)
            clear hd ho h64
            go_wp2_with fail
            refine (l03Canon_any N 6400 (gD Df) _ hbt.out).mono ?_
            rintro e w9 ⟨q9, c9, rfl, o9, E9⟩
            have hO := hid o9
            have hle := hid hE.le
            clear o9
            go_wp2_with fail
            go_ret
            exact ⟨q9, c9, by rw [hr.out]; rfl, by rw [hr.out]; exact owns_low hO.out hle.out, hE.trans E9⟩
end Go.Proofs.Ythdilndfcdpeiaa
