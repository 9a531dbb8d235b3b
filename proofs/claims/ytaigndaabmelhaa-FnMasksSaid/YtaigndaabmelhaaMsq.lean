/- PLAIN: the two masks of a region are a mask pair, both ways, and their union is the region. No condition. -/
import Derived.Test.YtaigndaabmelhaaSpm
import Derived.Test.YtaigndaabmelhaaMpq
import Derived.Test.YtaigndaabmelhaaCmb
namespace Go.Proofs.Ytaigndaabmelhaa
open Go.RowKit

/-- Different parts have no unit cell in common. -/
theorem part_apart {l : List Q4} {s : Int} (h : ptC l s = 0) {i j : Nat} (hij : i < j) (hj : j < (ptL l s).length) {x y : Int} (h1 : inL ((ptL l s).getD i []) x y = true) (h2 : inL ((ptL l s).getD j []) x y = true) : False := by
  obtain ⟨hL, _⟩ := ptC_parts h
  have hn : (ptL l s).length = (partsG (gL l)).length := by rw [hL, List.length_map]
  have hp := (partsG_ok (gL l)).2.1
  rw [List.pairwise_iff_getElem] at hp
  obtain ⟨k, k', p1, p2', _, hnr⟩ := hp i j (by omega) (by omega) hij
  have e : ∀ i (hi : i < (partsG (gL l)).length), (ptL l s).getD i [] = canon (partsG (gL l))[i] := fun i hi => by
    rw [getD_of (x := canon (partsG (gL l))[i])]
    rw [hL, List.getElem?_map, List.getElem?_eq_getElem hi]; rfl
  rw [e i (by omega), canon_in] at h1
  rw [e j (by omega), canon_in] at h2
  have hc : onC x y = true := by
    cases hc : onC x y with
    | true => rfl
    | false => rw [gh_off hc] at h1; cases h1
  have a1 := (p1.2.2 ⟨x, y⟩ hc).1 h1
  have a2 := (p2'.2.2 ⟨x, y⟩ hc).1 h2
  have hk' : setC (gL l) (p2 k') := by rw [setC, p2_gh p2'.1.1]; exact p2'.2.1
  exact hnr (a1.trans (a2.turn hk'))
theorem selL_iff {α : Type} {c : Nat → Int} {b : Bool} {L : List α} {x : α} : ∀ k, x ∈ selL c b L k ↔ ∃ i, i < k ∧ L[i]? = some x ∧ decide (c i = 0) = b
  | 0 => by simp [selL]
  | k + 1 => by
    have ih := selL_iff (c := c) (b := b) (L := L) (x := x) k
    rw [selL]
    split
    · rename_i y hy
      split
      · rename_i hc
        rw [List.mem_append, List.mem_singleton, ih]
        constructor
        · rintro (⟨i, h1, h2⟩ | rfl)
          · exact ⟨i, by omega, h2⟩
          · exact ⟨k, by omega, hy, hc⟩
        · rintro ⟨i, h1, h2, h3⟩
          by_cases e : i = k
          · subst e; rw [hy] at h2; exact Or.inr (Option.some.inj h2).symm
          · exact Or.inl ⟨i, by omega, h2, h3⟩
      · rename_i hc
        rw [ih]
        constructor
        · rintro ⟨i, h1, h2⟩; exact ⟨i, by omega, h2⟩
        · rintro ⟨i, h1, h2, h3⟩
          by_cases e : i = k
          · subst e; exact absurd h3 hc
          · exact ⟨i, by omega, h2, h3⟩
    · rename_i hy
      rw [ih]
      constructor
      · rintro ⟨i, h1, h2⟩; exact ⟨i, by omega, h2⟩
      · rintro ⟨i, h1, h2, h3⟩
        by_cases e : i = k
        · subst e; rw [hy] at h2; cases h2
        · exact ⟨i, by omega, h2, h3⟩
/-- The unit cells of a mask: those of the parts of its color. -/
theorem mask_in {l : List Q4} {s : Int} (h : cpC l s = 0) (b : Bool) (x y : Int) : inL (smL l s b) x y = true ↔ ∃ i, i < (ptL l s).length ∧ decide (ccol (tabL (ptL l s) s) (ptL l s).length (ptL l s).length i = 0) = b ∧ inL ((ptL l s).getD i []) x y = true := by
  have hv : ∀ r ∈ smG l s b, vR r = true := fun r hr => by
    rw [smG, List.mem_flatten] at hr
    obtain ⟨z, hz, hr⟩ := hr
    exact (ptL_ok l s z (selL_mem _ hz)).2 r hr
  rw [smL, if_pos h, canon_in, gh_gL hv, inL, List.any_eq_true]
  constructor
  · rintro ⟨r, hr, hi⟩
    rw [smG, List.mem_flatten] at hr
    obtain ⟨z, hz, hr⟩ := hr
    obtain ⟨i, h1, h2, h3⟩ := (selL_iff _).1 hz
    exact ⟨i, h1, h3, by rw [getD_of h2]; exact List.any_eq_true.2 ⟨r, hr, hi⟩⟩
  · rintro ⟨i, h1, h3, h2⟩
    have hz : (ptL l s)[i]? = some (ptL l s)[i] := List.getElem?_eq_getElem h1
    rw [getD_of hz, inL, List.any_eq_true] at h2
    obtain ⟨r, hr, hi⟩ := h2
    exact ⟨r, by rw [smG, List.mem_flatten]; exact ⟨_, (selL_iff _).2 ⟨i, h1, hz, h3⟩, hr⟩, hi⟩
theorem isReg_nilM : isReg [] = true := by
  rw [isReg_iff]
  refine ⟨rfl, ?_⟩
  cases hc : canon (gL []) with
  | nil => rfl
  | cons r rs =>
    exfalso
    have hv := vR_iff.1 ((vRs_parts (canon_valid (gL []))).2 r (by rw [hc]; simp))
    have h1 : inL (canon (gL [])) r.a r.b = true := by
      rw [hc, inL, List.any_eq_true]
      exact ⟨r, by simp, inR_iff.2 (by omega)⟩
    rw [canon_in, gh_gL (by simp)] at h1
    cases h1
theorem smL_reg (l : List Q4) (s : Int) (b : Bool) : isReg (smL l s b) = true := by
  rw [smL]; split
  · exact isReg_canon _
  · exact isReg_nilM
theorem smL_v (l : List Q4) (s : Int) (b : Bool) : ∀ r ∈ smL l s b, vR r = true := (vRs_parts (isReg_iff.1 (smL_reg l s b)).1).2
theorem mask_own {l : List Q4} {s : Int} (h : cpC l s = 0) {b : Bool} {i : Nat} (hi : i < (ptL l s).length) {x y : Int} (h1 : inL ((ptL l s).getD i []) x y = true) (h2 : inL (smL l s b) x y = true) : decide (ccol (tabL (ptL l s) s) (ptL l s).length (ptL l s).length i = 0) = b := by
  obtain ⟨j, hj, hb, h3⟩ := (mask_in h b x y).1 h2
  have h0 := (cpC_parts h).1
  rcases Nat.lt_trichotomy i j with hlt | he | hgt
  · exact (part_apart h0 hlt hj h1 h3).elim
  · rw [he]; exact hb
  · exact (part_apart h0 hgt hi h3 h1).elim
theorem mask_cov {l : List Q4} {s : Int} (h : cpC l s = 0) (b : Bool) {i : Nat} (hi : i < (ptL l s).length) : mcov (ptL l s) (smL l s b) i = decide (decide (ccol (tabL (ptL l s) s) (ptL l s).length (ptL l s).length i = 0) = b) := by
  have vp : ∀ r ∈ (ptL l s).getD i [], vR r = true := getD_ok (ptL_ok l s) i
  rw [Bool.eq_iff_iff, decide_eq_true_eq, mcov, covB_iff vp]
  constructor
  · intro hc
    obtain ⟨x, y, hxy⟩ := part_some hi
    have := hc x y hxy
    rw [gh_gL (smL_v l s b)] at this
    exact mask_own h hi hxy this
  · intro hb x y hxy
    rw [gh_gL (smL_v l s b)]
    exact (mask_in h b x y).2 ⟨i, hi, hb, hxy⟩
theorem mask_union {l : List Q4} {s : Int} (h : cpC l s = 0) (b : Bool) (x y : Int) : (inL (smL l s b) x y || inL (smL l s (!b)) x y) = inL l x y := by
  have h0 := (cpC_parts h).1
  obtain ⟨hL, hreg, _⟩ := ptC_parts h0
  have vl := (vRs_parts (isReg_iff.1 hreg).1).2
  have hsub : ∀ i, i < (ptL l s).length → inL ((ptL l s).getD i []) x y = true → inL l x y = true := fun i hi hx => by
    have hn : (ptL l s).length = (partsG (gL l)).length := by rw [hL, List.length_map]
    have hg : (partsG (gL l))[i]? = some (partsG (gL l))[i] := List.getElem?_eq_getElem (by omega)
    have hg2 : (ptL l s)[i]? = some (canon (partsG (gL l))[i]) := by rw [hL, List.getElem?_map, hg]; rfl
    rw [getD_of hg2, canon_in] at hx
    obtain ⟨k, hk⟩ := (partsG_ok (gL l)).1 _ (List.mem_of_getElem? hg)
    have hc : onC x y = true := by
      cases hc : onC x y with
      | true => rfl
      | false => rw [gh_off hc] at hx; cases hx
    have hk' : setC (gL l) (p2 k) := by rw [setC, p2_gh hk.1.1]; exact hk.2.1
    have := rch_in hk' ((hk.2.2 ⟨x, y⟩ hc).1 hx)
    rw [← gh_gL vl]; exact this
  rw [Bool.eq_iff_iff, Bool.or_eq_true]
  constructor
  · rintro (h1 | h1)
    · obtain ⟨i, hi, _, h2⟩ := (mask_in h _ x y).1 h1; exact hsub i hi h2
    · obtain ⟨i, hi, _, h2⟩ := (mask_in h _ x y).1 h1; exact hsub i hi h2
  · intro h1
    obtain ⟨i, hi, h2⟩ := part_cover h0 h1
    by_cases hb : decide (ccol (tabL (ptL l s) s) (ptL l s).length (ptL l s).length i = 0) = b
    · exact Or.inl ((mask_in h _ x y).2 ⟨i, hi, hb, h2⟩)
    · refine Or.inr ((mask_in h _ x y).2 ⟨i, hi, ?_, h2⟩)
      revert hb
      cases decide (ccol (tabL (ptL l s) s) (ptL l s).length (ptL l s).length i = 0) <;> cases b <;> simp
/-- The masks are a mask pair, in both orders. -/
theorem masks_pair {l : List Q4} {s : Int} (h : cpC l s = 0) (b : Bool) : mpV l s (smL l s b) (smL l s (!b)) = true := by
  obtain ⟨h0, hok⟩ := cpC_parts h
  have hok2 : okC (tabL (ptL l s) s) (ptL l s).length = true := hok
  obtain ⟨hL, hreg, _⟩ := ptC_parts h0
  have vl := (vRs_parts (isReg_iff.1 hreg).1).2
  have vu : ∀ r ∈ [smL l s b, smL l s (!b)].flatten, vR r = true := fun r hr => by
    rw [List.flatten_cons, List.flatten_cons, List.flatten_nil, List.append_nil, List.mem_append] at hr
    rcases hr with hr | hr
    · exact smL_v _ _ _ r hr
    · exact smL_v _ _ _ r hr
  simp only [mpV, Bool.and_eq_true, decide_eq_true_eq, Bool.not_eq_true']
  refine ⟨⟨⟨⟨⟨⟨h0, smL_reg _ _ _⟩, smL_reg _ _ _⟩, ?_⟩, ?_⟩, ?_⟩, ?_⟩
  · cases hm : meetL (smL l s b) (smL l s (!b)) with
    | false => rfl
    | true =>
      obtain ⟨x, y, e1, e2⟩ := (meet_iff (smL_v l s b) (smL_v l s (!b))).1 hm
      obtain ⟨i, hi, hb, e3⟩ := (mask_in h b x y).1 e1
      have := mask_own h hi e3 e2
      rw [hb] at this
      cases b <;> cases this
  · rw [← (isReg_iff.1 hreg).2]
    have hreg2 := (isReg_iff.1 hreg).2
    refine Eq.trans (canon_congr (g' := gL l) fun x y => ?_) (by rw [hreg2])
    rw [hreg2, gh_gL vu, gh_gL vl, inL, List.flatten_cons, List.flatten_cons, List.flatten_nil, List.append_nil, List.any_append]
    exact mask_union h b x y
  · rw [mcAll, List.all_eq_true]
    intro i hi
    rw [mask_cov h b (List.mem_range.1 hi), mask_cov h (!b) (List.mem_range.1 hi)]
    cases decide (ccol (tabL (ptL l s) s) (ptL l s).length (ptL l s).length i = 0) <;> cases b <;> rfl
  · rw [mcSep, List.all_eq_true]
    intro i hi
    rw [List.all_eq_true]
    intro k hk
    rw [List.mem_range] at hi hk
    cases he : edg (tabL (ptL l s) s) i k with
    | false => rfl
    | true =>
      rw [mask_cov h b hi, mask_cov h b hk]
      have hne : ccol (tabL (ptL l s) s) (ptL l s).length (ptL l s).length i ≠ ccol (tabL (ptL l s) s) (ptL l s).length (ptL l s).length k := fun e => by
        rw [okC_not hi hk he e.symm] at hok2; cases hok2
      have h1 := ccol_ok (T := tabL (ptL l s) s) (n := (ptL l s).length) (ptL l s).length (Nat.le_refl _) i
      have h2 := ccol_ok (T := tabL (ptL l s) s) (n := (ptL l s).length) (ptL l s).length (Nat.le_refl _) k
      have h3 := ccol_has (T := tabL (ptL l s) s) (n := (ptL l s).length) (ptL l s).length i hi
      have h4 := ccol_has (T := tabL (ptL l s) s) (n := (ptL l s).length) (ptL l s).length k hk
      generalize ccol (tabL (ptL l s) s) (ptL l s).length (ptL l s).length i = u at *
      generalize ccol (tabL (ptL l s) s) (ptL l s).length (ptL l s).length k = v at *
      by_cases hu : u = 0
      · have hv : ¬ v = 0 := by omega
        rw [decide_eq_true hu, decide_eq_false hv]; cases b <;> rfl
      · have hv : v = 0 := by omega
        rw [decide_eq_false hu, decide_eq_true hv]; cases b <;> rfl
end Go.Proofs.Ytaigndaabmelhaa
