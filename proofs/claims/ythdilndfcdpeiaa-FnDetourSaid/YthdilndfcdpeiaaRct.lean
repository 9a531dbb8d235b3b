/- Contracts of RegionContains (program), IsRegion (reference); the plain law of FnFlood. Condition: at most 2^20 rectangles. -/
import Derived.Test.YthdilndfcdpeiaaCtn
import Derived.Test.YthdilndfcdpeiaaRdi
namespace Go.Proofs.Ythdilndfcdpeiaa
open Go.RowKit

set_option maxHeartbeats 4000000 in
theorem regContains1_pred (b1 b2 : Nat) (l : List Q4) (x y : Int) (w : World) (hv : ∀ r ∈ l, vR r = true) (l1 : b1 < w.heap.size) (l2 : b2 < w.heap.size) (e1 : w.cell? ⟨b1, 0, none⟩ = some (.int .i64 x)) (e2 : w.cell? ⟨b2, 0, none⟩ = some (.int .i64 y)) :
    PredR 98 #[.pointer (some ⟨b1, 0, none⟩), .pointer (some ⟨b2, 0, none⟩)] (fun r => inR r x y) l w := by
  intro W r hE hx
  show Calls Try.prog 98 #[.agg #[.int .i64 r.a, .int .i64 r.b, .int .i64 r.c, .int .i64 r.d], .pointer (some ⟨b1, 0, none⟩), .pointer (some ⟨b2, 0, none⟩)] W fun e w' => e = .returned (.bool (inR r x y)) ∧ Ext W w'
  have hvx := hid (hv r hx)
  have f1 := (hE.cells b1 0 l1).trans e1
  have f2 := (hE.cells b2 0 l2).trans e2
  have k1 : b1 < W.heap.size := Nat.lt_of_lt_of_le l1 hE.le
  have k2 : b2 < W.heap.size := Nat.lt_of_lt_of_le l2 hE.le
  clear hE e1 e2 hv hx
  go_enter Try.func98, Try.ntmps98
  go_wp2_with (go_at_call 99; refine (RectContains_any r x y _ hvx.out).mono ?_; rintro e w' ⟨rfl, E⟩)
  go_ret
  exact ⟨rfl, ((Ext.refl _).alloc _).trans E⟩
set_option maxHeartbeats 4000000 in
theorem RegionContains_any (q : Option Addr) (n c : Nat) (l : List Q4) (x y : Int) (w : World) (h : SlT enc4 4 w q n l) (hn : n ≤ 1048576) :
    Calls Try.prog 40 #[.slice q n c, .int .i64 x, .int .i64 y] w fun e w' => e = .returned (.bool (isReg l && inL l x y)) ∧ Ext w w' := by
  have hc1 := fun W (hW : Ext w W) => IsRegion_any q n c l W (h.ext hW) hn
  cases h1 : isReg l with
  | false =>
    rw [h1] at hc1
    replace hc1 := hid hc1
    clear h1
    go_enter Try.func40, Try.ntmps40
    go_wp2_with fail
    generalize hW : (w.alloc _).alloc _ = W0
    obtain ⟨E0, z0, b0, b1⟩ := boxes2 hW
    clear hW z0 b0 b1
    refine (hc1.out _ E0).mono ?_
    rintro e w1 ⟨rfl, E1⟩
    go_wp2_with fail
    go_ret
    exact ⟨rfl, E0.trans E1⟩
  | true =>
    have hvs := hid (vRs_parts (isReg_iff.1 h1).1).2
    rw [h1] at hc1
    replace hc1 := hid hc1
    clear h1
    go_enter Try.func40, Try.ntmps40
    go_wp2_with fail
    generalize hW : (w.alloc _).alloc _ = W0
    obtain ⟨E0, z0, b0, b1⟩ := boxes2 hW
    clear hW
    have g0 := hid (show Blk W0 w.heap.size [.int .i64 x] _ from b0)
    have g1 := hid (show Blk W0 (w.heap.size + 1) [.int .i64 y] _ from b1)
    clear b0 b1
    replace z0 := hid z0
    refine (hc1.out _ E0).mono ?_
    rintro e w1 ⟨rfl, E1⟩
    have hp := hid (regContains1_pred w.heap.size (w.heap.size + 1) l x y w1 hvs.out (g0.out.ext E1).lt (g1.out.ext E1).lt ((g0.out.ext E1).cells 0) ((g1.out.ext E1).cells 0))
    go_wp2_with (go_at_call 68; refine (containsFuncR_any q n c l (fun r => inR r x y) 98 _ (enters_of Try.func98 (by kernel_rfl) rfl) _ (h.ext (E0.trans E1)) hp.out hn).mono ?_; rintro e w' ⟨rfl, hE⟩)
    go_ret
    exact ⟨rfl, E0.trans (E1.trans hE)⟩
theorem specIsRegion_any (q : Option Addr) (n c : Nat) (l : List Q4) (w : World) (h : SlT enc4 4 w q n l) (hn : n ≤ 1048576) :
    Calls Try.prog 39 #[.slice q n c] w fun e w' => e = .returned (.bool (isReg l)) ∧ Ext w w' := by
  go_enter Try.func39, Try.ntmps39
  go_wp2_with fail
  refine (l03Ok_any q n c l _ h hn).mono ?_
  rintro e w' ⟨rfl, E⟩
  go_wp2_with fail
  go_ret
  exact ⟨rfl, E⟩
theorem canon_contains (g : Grid) (x y : Int) : (isReg (canon g) && inL (canon g) x y) = gh g x y := by rw [isReg_canon, canon_in, Bool.true_and]
theorem canonY_none2 {g : Grid} (h : ∀ x y, gh g x y = false) : ∀ (n : Nat) (y : Int), (40 - y).toNat ≤ n → canonY g y = []
  | 0, y, hn => canonY_stop (by omega)
  | n + 1, y, hn => by
    by_cases hy : y < 40
    · rw [canonY_step hy, canonY_none2 h n _ (by have := rowEnd_ge g y (y + 1); omega), band]
      have hr : runs g y = [] := by
        apply List.eq_nil_iff_forall_not_mem.2
        intro z hz
        have := (chg_mem g y (-40) z).1 hz
        exact this.2.2 (by rw [h, h])
      rw [hr]; rfl
    · exact canonY_stop (by omega)
theorem nil_contains (x y : Int) : (isReg [] && inL [] x y) = false := by simp [inL]
theorem frL_bad {l : List Q4} {a : Q2} (h : isReg l = false) : frL l a = [] := by rw [frL, h]; rfl
theorem rdL_bad {l : List Q4} {a b : Q2} (h : isReg l = false) : rdL l a b = -1 := by rw [rdL, srC, h]; rfl
theorem rdL_pos {l : List Q4} {a b : Q2} : 0 ≤ rdL l a b ↔ srC l a b = 0 := by
  rw [rdL]
  by_cases h : srC l a b = 0
  · rw [if_pos h]; have := (srC_zero h).2.2; simp [h]; exact this
  · rw [if_neg h]; simp [h]
theorem srC_iff {l : List Q4} {a b : Q2} : srC l a b = 0 ↔ isReg l = true ∧ onC a.a a.b = true ∧ onC b.a b.b = true ∧ gh (gL l) a.a a.b = false ∧ gh (gL l) b.a b.b = false ∧ 0 ≤ (bfs (gL l) b).1 a := by
  rw [srC]
  cases isReg l <;> cases onC a.a a.b <;> cases onC b.a b.b <;> simp
  cases gh (gL l) a.a a.b <;> cases gh (gL l) b.a b.b <;> simp
/-- A unit cell is in the flooded region exactly if there is a route to it. -/
theorem flood_law {l : List Q4} {a b : Q2} (hr : isReg l = true) : decide (0 ≤ rdL l a b) = (isReg (frL l a) && inL (frL l a) b.a b.b) := by
  rw [frL]
  by_cases h : (isReg l && onC a.a a.b && !gh (gL l) a.a a.b) = true
  · rw [if_pos h, canon_contains, Bool.eq_iff_iff, decide_eq_true_eq, rdL_pos, srC_iff]
    rw [hr, Bool.true_and, Bool.and_eq_true, Bool.not_eq_true'] at h
    obtain ⟨ha, hf⟩ := h
    cases hb : onC b.a b.b with
    | false => simp [gh_off hb]
    | true =>
      rw [gD, gh_gmk _ hb, decide_eq_true_eq]
      constructor
      · rintro ⟨_, _, _, _, hbf, h0⟩
        rw [bfs_sym ha hb hf hbf]; exact h0
      · intro h0
        have hbf : gh (gL l) b.a b.b = false := by
          have h1 := (bfs_rch (g := gL l) ha b).1 h0
          cases h1 with
          | refl => exact hf
          | step _ _ h2 => exact h2
        exact ⟨hr, ha, rfl, hf, hbf, by rw [← bfs_sym ha hb hf hbf]; exact h0⟩
  · rw [if_neg h, nil_contains, decide_eq_false_iff_not, rdL_pos, srC_iff]
    rintro ⟨h1, h2, _, h3, _⟩
    exact h (by rw [h1, h2, h3]; rfl)
end Go.Proofs.Ythdilndfcdpeiaa
