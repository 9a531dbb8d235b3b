/- The plain law: the program's IsChannelRouting and the reference's tell the same. No condition. -/
import Derived.Test.YtiljojpnbpdaeaaIcs
namespace Go.Proofs.Ytiljojpnbpdaeaa
open Go.RowKit Go.Maps

theorem spStep_ge {s : Int × Int} {x y net : Int} {k : Nat} (h : 0 ≤ s.1 ∨ x = net ∨ y = net) : 0 ≤ (spStep s x y net k).1 := by
  rw [spStep]
  split
  · split
    · simp
    · simp; omega
  · rcases h with h | h
    · exact h
    · contradiction
theorem sp_hit {t b : List Int} {net : Int} {c : Nat} : ∀ {n : Nat}, c < n → (t.getD c 0 = net ∨ b.getD c 0 = net) → 0 ≤ (sp t b net n).1
  | 0, h, _ => absurd h (Nat.not_lt_zero _)
  | n + 1, h, hh => by
    rw [sp]
    by_cases hc : c = n
    · subst hc
      exact spStep_ge (Or.inr hh)
    · exact spStep_ge (Or.inl (sp_hit (by omega) hh))
theorem spansK_sorted (t b : List Int) (n : Nat) : ∀ j, (spansK t b n j).Pairwise (fun s u => s.a < u.a) ∧ ∀ s ∈ spansK t b n j, 1 ≤ s.a ∧ s.a ≤ j
  | 0 => by simp [spansK]
  | j + 1 => by
    obtain ⟨h1, h2⟩ := spansK_sorted t b n j
    have h3 : ∀ s ∈ (spanOf t b n (j + 1)).toList, s.a = j + 1 := by
      intro s hs
      rw [spanOf] at hs
      split at hs
      · simp at hs; subst hs; rfl
      · simp at hs
    rw [spansK]
    refine ⟨List.pairwise_append.2 ⟨h1, ?_, fun s hs u hu => ?_⟩, fun s hs => ?_⟩
    · rw [spanOf]; split <;> simp
    · have := h2 s hs; have := h3 u hu; omega
    · rcases List.mem_append.1 hs with hs | hs
      · have := h2 s hs; omega
      · have := h3 s hs; omega
theorem span_mem {t b : List Int} {n : Nat} {net : Int} (h : 0 ≤ (sp t b net n).1) (h1 : 1 ≤ net) : ∀ j : Nat, net ≤ j → ∃ s ∈ spansK t b n j, s.a = net
  | 0, hj => by omega
  | j + 1, hj => by
    rw [spansK]
    by_cases he : net = j + 1
    · refine ⟨⟨net, (sp t b net n).1, (sp t b net n).2⟩, List.mem_append.2 (Or.inr ?_), rfl⟩
      rw [← he, spanOf, if_pos h]; simp
    · obtain ⟨s, hs, ha⟩ := span_mem h h1 j (by omega)
      exact ⟨s, List.mem_append.2 (Or.inl hs), ha⟩
theorem net_inj {t b : List Int} {i k : Nat} {s u : Q3} (hs : (spansL t b)[i]? = some s) (hu : (spansL t b)[k]? = some u) (h : s.a = u.a) : i = k := by
  have hp := (spansK_sorted t b t.length 12).1
  rw [List.pairwise_iff_getElem] at hp
  obtain ⟨hi, rfl⟩ := List.getElem?_eq_some_iff.1 hs
  obtain ⟨hk, rfl⟩ := List.getElem?_eq_some_iff.1 hu
  rcases Nat.lt_trichotomy i k with hlt | heq | hgt
  · have := hp i k hi hk hlt; unfold spansL at h; omega
  · exact heq
  · have := hp k i hk hi hgt; unfold spansL at h; omega
theorem ofK_at {t b tr : List Int} {k : Nat} {s : Q3} {x : Int} (hs : (spansL t b)[k]? = some s) (hx : tr[k]? = some x) : ∀ j, j ≤ (spansL t b).length → k < j → ofK (spansL t b) tr j s.a = some x
  | 0, _, h => absurd h (Nat.not_lt_zero _)
  | j + 1, hj, h => by
    obtain ⟨u, hu⟩ : ∃ u, (spansL t b)[j]? = some u := ⟨_, List.getElem?_eq_getElem (by omega)⟩
    rw [ofK, getD_of hu]
    by_cases hk : k = j
    · subst hk
      rw [hs] at hu; cases hu
      rw [getD_of hx, upd_same]
    · have hne : s.a ≠ u.a := fun e => hk (net_inj hs hu e)
      rw [upd_other _ _ hne]
      exact ofK_at hs hx j (by omega) (by omega)
theorem net_of_column {t b : List Int} {c : Nat} {x y : Int} (hx : t[c]? = some x) (hy : b[c]? = some y) (h1 : 1 ≤ x) (h2 : x ≤ 12) (h3 : 1 ≤ y) (h4 : y ≤ 12) :
    (∃ (i : Nat) (s : Q3), (spansL t b)[i]? = some s ∧ s.a = x) ∧ ∃ (k : Nat) (u : Q3), (spansL t b)[k]? = some u ∧ u.a = y := by
  have hc : c < t.length := (List.getElem?_eq_some_iff.1 hx).1
  constructor
  · obtain ⟨s, hs, ha⟩ := span_mem (sp_hit (net := x) hc (Or.inl (getD_of hx))) h1 12 (by omega)
    obtain ⟨i, hi⟩ := List.mem_iff_getElem?.1 hs
    exact ⟨i, s, hi, ha⟩
  · obtain ⟨s, hs, ha⟩ := span_mem (sp_hit (net := y) hc (Or.inr (getD_of hy))) h3 12 (by omega)
    obtain ⟨i, hi⟩ := List.mem_iff_getElem?.1 hs
    exact ⟨i, s, hi, ha⟩
theorem aboveB_iff {t b : List Int} (hl : t.length = b.length) {x y : Int} : aboveB t b x y = true ↔ x ≠ y ∧ ∃ c : Nat, t[c]? = some x ∧ b[c]? = some y := by
  rw [aboveB, aboveK, List.take_of_length_le (by simp [← hl])]
  simp only [Bool.and_eq_true, bne_iff_ne, List.any_eq_true, beq_iff_eq]
  constructor
  · rintro ⟨h1, p, hp, rfl, rfl⟩
    obtain ⟨c, hc⟩ := List.mem_iff_getElem?.1 hp
    rw [List.getElem?_zip_eq_some] at hc
    exact ⟨h1, c, hc.1, hc.2⟩
  · rintro ⟨h1, c, h2, h3⟩
    exact ⟨h1, (x, y), List.mem_iff_getElem?.2 ⟨c, by rw [List.getElem?_zip_eq_some]; exact ⟨h2, h3⟩⟩, rfl, rfl⟩
theorem isCR_same (t b tr : List Int) : isCRs t b tr ↔ isCRi t b tr := by
  constructor
  · rintro ⟨hok, hlen, hS⟩
    have hl := (chOk_len hok).1
    refine ⟨hok, hlen, fun i hi s x hs hx => ?_, fun c hc x y hx hy x0 y0 hxy => ?_⟩
    · obtain ⟨h1, h2⟩ := hS i hi s x hs hx
      refine ⟨h1, fun k hk u y hu hy hh => ?_⟩
      exact (h2 k (by omega) u y hu hy).1 ⟨by omega, hh.1.symm, hh.2.1, hh.2.2⟩
    · obtain ⟨g1, g2, g3, g4⟩ := chOk_at hok hx hy
      obtain ⟨⟨i, s, hs, rfl⟩, k, u, hu, rfl⟩ := net_of_column hx hy (by omega) g2 (by omega) g4
      have hi : i < (spansL t b).length := (List.getElem?_eq_some_iff.1 hs).1
      have hk : k < (spansL t b).length := (List.getElem?_eq_some_iff.1 hu).1
      have hxi : tr[i]? = some tr[i] := List.getElem?_eq_getElem (by omega)
      have hxk : tr[k]? = some tr[k] := List.getElem?_eq_getElem (by omega)
      rw [ofK_at hs hxi _ (Nat.le_refl _) hi, ofK_at hu hxk _ (Nat.le_refl _) hk]
      have := ((hS i hi s _ hs hxi).2 k hk u _ hu hxk).2
      have hab : aboveB t b s.a u.a = true := (aboveB_iff hl).2 ⟨hxy, c, hx, hy⟩
      have h3 : ¬ (tr[k] ≤ tr[i]) := fun hh => this ⟨hab, hh⟩
      simp only [Option.getD_some]
      omega
  · rintro ⟨hok, hlen, hT, hC⟩
    have hl := (chOk_len hok).1
    refine ⟨hok, hlen, fun i hi s x hs hx => ?_⟩
    refine ⟨(hT i hi s x hs hx).1, fun k hk u y hu hy => ⟨?_, ?_⟩⟩
    · rintro ⟨hik, rfl, h1, h2⟩
      rcases Nat.lt_or_gt_of_ne hik with h | h
      · exact (hT k hk u x hu hy).2 i h s x hs hx ⟨rfl, h2, h1⟩
      · exact (hT i hi s x hs hx).2 k h u x hu hy ⟨rfl, h1, h2⟩
    · rintro ⟨hab, hyx⟩
      obtain ⟨hne, c, h1, h2⟩ := (aboveB_iff hl).1 hab
      have n1 := (spansK_sorted t b t.length 12).2 s (List.mem_of_getElem? hs)
      have n2 := (spansK_sorted t b t.length 12).2 u (List.mem_of_getElem? hu)
      have hc : c < t.length := (List.getElem?_eq_some_iff.1 h1).1
      have := hC c hc s.a u.a h1 h2 (by omega) (by omega) hne
      rw [ofK_at hs hx _ (Nat.le_refl _) hi, ofK_at hu hy _ (Nat.le_refl _) hk] at this
      simp only [Option.getD_some] at this
      omega
end Go.Proofs.Ytiljojpnbpdaeaa
