/- Plain laws for FnFill: what Grow, Intersection, Union and IsDense answer on the squares of a filling. No condition. -/
import Derived.Test.YtaigndaabmelhaaFlp
import Derived.Test.YtaigndaabmelhaaCmb
import Derived.Test.YtaigndaabmelhaaFsa
namespace Go.Proofs.Ytaigndaabmelhaa

theorem canonY_none2F {g : Grid} (h : ∀ x y, gh g x y = false) : ∀ (n : Nat) (y : Int), (40 - y).toNat ≤ n → canonY g y = []
  | 0, y, hn => canonY_stop (by omega)
  | n + 1, y, hn => by
    by_cases hy : y < 40
    · rw [canonY_step hy, canonY_none2F h n _ (by have := rowEnd_ge g y (y + 1); omega), band]
      have hr : runs g y = [] := by
        apply List.eq_nil_iff_forall_not_mem.2
        intro z hz
        have := (chg_mem g y (-40) z).1 hz
        exact this.2.2 (by rw [h, h])
      rw [hr]; rfl
    · exact canonY_stop (by omega)
theorem canon_none {g : Grid} (h : ∀ x y, gh g x y = false) : canon g = [] := canonY_none2F h _ _ (Nat.le_refl _)
theorem fsC_zero {l : List Q4} {s p sz gap : Int} (h : fsC l s p sz gap = 0) : isReg l = true ∧ wit s 4 40 = true ∧ wit p 1 100 = true ∧ wit sz 1 8 = true ∧ wit gap 0 8 = true := by
  rw [fsC] at h
  cases h1 : isReg l with
  | false => rw [h1] at h; simp at h
  | true =>
    rw [h1] at h
    cases h2 : (wit s 4 40 && wit p 1 100 && wit sz 1 8 && wit gap 0 8) with
    | false => rw [h2] at h; simp at h
    | true =>
      simp only [Bool.and_eq_true] at h2
      exact ⟨rfl, h2.1.1.1, h2.1.1.2, h2.1.2, h2.2⟩
theorem fsL_zero {l : List Q4} {s p sz gap : Int} (h : fsC l s p sz gap = 0) : fsL l s p sz gap = canon (fsS l s p sz gap).2.1 := by rw [fsL, if_pos h]
theorem fsL_bad {l : List Q4} {s p sz gap : Int} (h : fsC l s p sz gap ≠ 0) : fsL l s p sz gap = [] := by rw [fsL, if_neg h]
theorem fsL_reg {l : List Q4} {s p sz gap : Int} (h : fsC l s p sz gap = 0) : isReg (fsL l s p sz gap) = true := by rw [fsL_zero h]; exact isReg_canon _
/-- The squares, grown by the gap, have no unit cell in common with the region. -/
theorem fs_far {l : List Q4} {s p sz gap : Int} (h : fsC l s p sz gap = 0) : canon (binG (· && ·) (gL (groL (fsL l s p sz gap) gap)) (gL l)) = [] := by
  obtain ⟨_, h1, _, h3, h4⟩ := fsC_zero h
  rw [wit_iff] at h1 h3 h4
  have hG := fill_gap (g := gL l) (s := s) (p := p) (sz := sz) (gap := gap) (by omega) (by omega) (by omega)
  refine canon_none fun x y => ?_
  rw [gh_bin rfl, Bool.and_eq_false_iff]
  cases hx : gh (gL (groL (fsL l s p sz gap) gap)) x y with
  | false => left; rfl
  | true =>
    right
    rw [fsL_zero h, groL, gh_of_cells (gL_canon _)] at hx
    have hc : onC x y = true := by
      cases hc : onC x y with
      | true => rfl
      | false => rw [gh_off hc] at hx; cases hx
    rw [gL, gh_gmk _ hc, inL, List.any_eq_true] at hx
    obtain ⟨r', hr', hi⟩ := hx
    rw [List.mem_map] at hr'
    obtain ⟨r, hr, rfl⟩ := hr'
    have hv := (isReg_parts (isReg_canon (fsS l s p sz gap).2.1)).2 r hr
    rw [vR_iff] at hv
    rw [inR_iff] at hi
    simp only [grwQ] at hi
    obtain ⟨u, hu⟩ : ∃ u, u = if x < r.a then r.a else if r.c ≤ x then r.c - 1 else x := ⟨_, rfl⟩
    obtain ⟨v, hv'⟩ : ∃ v, v = if y < r.b then r.b else if r.d ≤ y then r.d - 1 else y := ⟨_, rfl⟩
    have hin : inR r u v = true := by
      rw [inR_iff]
      split at hu <;> split at hv' <;> (try split at hu) <;> (try split at hv') <;> omega
    have hg : gh (fsS l s p sz gap).2.1 u v = true := by
      rw [← canon_in, inL, List.any_eq_true]
      exact ⟨r, hr, hin⟩
    refine hG.far u v hg x y ?_ ?_
    · split at hu <;> (try split at hu) <;> omega
    · split at hv' <;> (try split at hv') <;> omega
/-- Where all windows are dense there are no squares. -/
theorem fs_dense {l : List Q4} {s p sz gap : Int} (h : fsC l s p sz gap = 0) (hd : isDense l s p = true) : fsL l s p sz gap = [] := by
  obtain ⟨h0, h1, _, h3, h4⟩ := fsC_zero h
  rw [wit_iff] at h1 h3 h4
  rw [isDense, Bool.and_eq_true, List.all_eq_true] at hd
  have hs : fsS l s p sz gap = (gL l, gnone, 0) := fillL_dense (by omega) (by omega) _ fun r hr => by
    have hv := vR_iff.1 (winL_in (by omega) r hr)
    have := hd.2 r hr
    rwa [cov_reg h0 r (by omega)] at this
  rw [fsL_zero h, hs]
  exact canon_none fun x y => by rw [gh]; simp [gnone]
/-- The union with nothing is the region. -/
theorem un_nil {l : List Q4} (h : isReg l = true) : canon (binG (· || ·) (gL l) (gL [])) = l := by
  rw [canon_congr (g' := gL l)]
  · exact (isReg_iff.1 h).2
  · intro x y
    rw [gh_bin rfl]
    have : gh (gL []) x y = false := by
      cases hc : onC x y with
      | false => exact gh_off hc
      | true => rw [gL, gh_gmk _ hc]; simp [inL]
    rw [this, Bool.or_false]
end Go.Proofs.Ytaigndaabmelhaa
