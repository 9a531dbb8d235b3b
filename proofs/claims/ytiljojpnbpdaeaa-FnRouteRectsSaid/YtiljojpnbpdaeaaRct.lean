/- Contracts of RegionContains (program), IsRegion (reference); the plain law of FnFlood. Condition: at most 2^20 rectangles. -/
import Derived.Test.YtiljojpnbpdaeaaCtn
import Derived.Test.YtiljojpnbpdaeaaRdi
namespace Go.Proofs.Ytiljojpnbpdaeaa
open Go.RowKit

theorem canon_contains (g : Grid) (x y : Int) : (isReg (canon g) && inL (canon g) x y) = gh g x y := by rw [isReg_canon, canon_in, Bool.true_and]
theorem canonY_none2 {g : Grid} (h : ∀ x y, gh g x y = false) : ∀ (n : Nat) (y : Int), (40 - y).toNat ≤ n → canonY g y = []
  | 0, y, hn => canonY_stop (by omega)
  | n + 1, y, hn => by
    by_cases hy : y < 40
    · rw [canonY_step hy, canonY_none2 h n _ (by have := rowEnd_ge g y (y + 1); omega), band]
      have hr : runs g y = [] := by
        apply List.eq_nil_iff_forall_not_mem.2
        intro z hz
        have := (chg_mem g y (-40) z).1 hz
        exact this.2.2 (by rw [h, h])
      rw [hr]; rfl
    · exact canonY_stop (by omega)
theorem nil_contains (x y : Int) : (isReg [] && inL [] x y) = false := by simp [inL]
theorem frL_bad {l : List Q4} {a : Q2} (h : isReg l = false) : frL l a = [] := by rw [frL, h]; rfl
theorem rdL_bad {l : List Q4} {a b : Q2} (h : isReg l = false) : rdL l a b = -1 := by rw [rdL, srC, h]; rfl
theorem rdL_pos {l : List Q4} {a b : Q2} : 0 ≤ rdL l a b ↔ srC l a b = 0 := by
  rw [rdL]
  by_cases h : srC l a b = 0
  · rw [if_pos h]; have := (srC_zero h).2.2; simp [h]; exact this
  · rw [if_neg h]; simp [h]
theorem srC_iff {l : List Q4} {a b : Q2} : srC l a b = 0 ↔ isReg l = true ∧ onC a.a a.b = true ∧ onC b.a b.b = true ∧ gh (gL l) a.a a.b = false ∧ gh (gL l) b.a b.b = false ∧ 0 ≤ (bfs (gL l) b).1 a := by
  rw [srC]
  cases isReg l <;> cases onC a.a a.b <;> cases onC b.a b.b <;> simp
  cases gh (gL l) a.a a.b <;> cases gh (gL l) b.a b.b <;> simp
/-- A unit cell is in the flooded region exactly if there is a route to it. -/
theorem flood_law {l : List Q4} {a b : Q2} (hr : isReg l = true) : decide (0 ≤ rdL l a b) = (isReg (frL l a) && inL (frL l a) b.a b.b) := by
  rw [frL]
  by_cases h : (isReg l && onC a.a a.b && !gh (gL l) a.a a.b) = true
  · rw [if_pos h, canon_contains, Bool.eq_iff_iff, decide_eq_true_eq, rdL_pos, srC_iff]
    rw [hr, Bool.true_and, Bool.and_eq_true, Bool.not_eq_true'] at h
    obtain ⟨ha, hf⟩ := h
    cases hb : onC b.a b.b with
    | false => simp [gh_off hb]
    | true =>
      rw [gD, gh_gmk _ hb, decide_eq_true_eq]
      constructor
      · rintro ⟨_, _, _, _, hbf, h0⟩
        rw [bfs_sym ha hb hf hbf]; exact h0
      · intro h0
        have hbf : gh (gL l) b.a b.b = false := by
          have h1 := (bfs_rch (g := gL l) ha b).1 h0
          cases h1 with
          | refl => exact hf
          | step _ _ h2 => exact h2
        exact ⟨hr, ha, rfl, hf, hbf, by rw [← bfs_sym ha hb hf hbf]; exact h0⟩
  · rw [if_neg h, nil_contains, decide_eq_false_iff_not, rdL_pos, srC_iff]
    rintro ⟨h1, h2, _, h3, _⟩
    exact h (by rw [h1, h2, h3]; rfl)
end Go.Proofs.Ytiljojpnbpdaeaa
