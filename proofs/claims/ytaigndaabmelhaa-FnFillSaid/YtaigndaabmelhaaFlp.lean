/- Plain laws for FnFill: the squares keep the gap to the region; where all windows are dense nothing is added. No condition. -/
import Derived.Test.YtaigndaabmelhaaFil
namespace Go.Proofs.Ytaigndaabmelhaa

/-- The squares keep the gap to g, and g stays in the set. -/
structure Gap (g : Grid) (gap : Int) (s : FS) : Prop where
  sub : ∀ x y, gh g x y = true → gh s.1 x y = true
  far : ∀ x y, gh s.2.1 x y = true → ∀ u v, (x - gap ≤ u ∧ u ≤ x + gap) → (y - gap ≤ v ∧ v ≤ y + gap) → gh g u v = false
theorem Gap.step {g : Grid} {gap : Int} {s : FS} {r : Q4} {p sz u v : Int} (h : Gap g gap s) (hr : vR r = true) (h1 : 1 ≤ sz) (hu : r.a ≤ u) (huc : u + sz ≤ r.c) (hv : r.b ≤ v) (hvd : v + sz ≤ r.d) : Gap g gap (stepS r p sz gap u v s) := by
  cases hs : skipS r p sz gap u v s with
  | true => rw [stepS_skip hs]; exact h
  | false =>
    rw [stepS_put hs]
    have hsv := sq_valid hr h1 hu huc hv hvd
    rw [skipS, Bool.or_eq_false_iff] at hs
    have hc : clearB s.1 (grQ u v sz gap) = true := by simpa using hs.2
    refine ⟨fun x y hx => ?_, fun x y hx x' y' hx' hy' => ?_⟩
    · show gh (orR s.1 (sqQ u v sz)) x y = true
      rw [gh_orR hsv, h.sub x y hx]; rfl
    · have hx2 : gh (orR s.2.1 (sqQ u v sz)) x y = true := hx
      rw [gh_orR hsv, Bool.or_eq_true] at hx2
      rcases hx2 with hx2 | hx2
      · exact h.far x y hx2 x' y' hx' hy'
      · have hin : inR (grQ u v sz gap) x' y' = true := by
          rw [inR_iff] at hx2 ⊢
          simp only [sqQ, grQ] at hx2 ⊢
          omega
        have hcl := clearB_iff.1 hc x' y' hin
        cases hg : gh g x' y' with
        | false => rfl
        | true => rw [h.sub x' y' hg] at hcl; cases hcl
theorem Gap.fX {g : Grid} {gap : Int} {r : Q4} {p sz v : Int} (hr : vR r = true) (h1 : 1 ≤ sz) (h2 : 0 ≤ gap) (hv : r.b ≤ v) (hvd : v + sz ≤ r.d) : ∀ (n : Nat) (u : Int) (s : FS), (r.c + 1 - u).toNat ≤ n → r.a ≤ u → Gap g gap s → Gap g gap (fX r p sz gap v u s)
  | 0, u, s, hn, _, h => by rw [fX_stop (by omega)]; exact h
  | n + 1, u, s, hn, hu, h => by
    by_cases hc : u + sz ≤ r.c
    · rw [fX_go h1 h2 hc]
      exact Gap.fX hr h1 h2 hv hvd n _ _ (by omega) (by omega) (h.step hr h1 hu hc hv hvd)
    · rw [fX_stop hc]; exact h
theorem Gap.fY {g : Grid} {gap : Int} {r : Q4} {p sz : Int} (hr : vR r = true) (h1 : 1 ≤ sz) (h2 : 0 ≤ gap) : ∀ (n : Nat) (v : Int) (s : FS), (r.d + 1 - v).toNat ≤ n → r.b ≤ v → Gap g gap s → Gap g gap (fY r p sz gap v s)
  | 0, v, s, hn, _, h => by rw [fY_stop (by omega)]; exact h
  | n + 1, v, s, hn, hv, h => by
    by_cases hc : v + sz ≤ r.d
    · rw [fY_go h1 h2 hc]
      exact Gap.fY hr h1 h2 n _ _ (by omega) (by omega) (Gap.fX hr h1 h2 hv hc _ _ _ (Nat.le_refl _) (Int.le_refl _) h)
    · rw [fY_stop hc]; exact h
theorem Gap.fillL {g : Grid} {gap p sz : Int} (h1 : 1 ≤ sz) (h2 : 0 ≤ gap) : ∀ (ws : List Q4) (s : FS), (∀ r ∈ ws, vR r = true) → Gap g gap s → Gap g gap (fillL p sz gap ws s)
  | [], _, _, h => h
  | r :: ws, s, hw, h => by
    rw [Go.Proofs.Ytaigndaabmelhaa.fillL]
    exact Gap.fillL h1 h2 ws _ (fun t ht => hw t (by simp [ht])) (Gap.fY (hw r (by simp)) h1 h2 _ _ _ (Nat.le_refl _) (Int.le_refl _) h)
theorem Gap.start (g : Grid) (gap : Int) : Gap g gap (g, gnone, 0) := by
  refine ⟨fun _ _ h => h, fun x y h => ?_⟩
  have h2 : gh gnone x y = true := h
  rw [gh] at h2; simp [gnone] at h2
/-- The squares of a filling keep the gap. -/
theorem fill_gap {g : Grid} {s p sz gap : Int} (hs : 1 ≤ s) (h1 : 1 ≤ sz) (h2 : 0 ≤ gap) : Gap g gap (fillL p sz gap (winL s) (g, gnone, 0)) := Gap.fillL h1 h2 _ _ (winL_in hs) (Gap.start g gap)
/-- In a dense window nothing is added. -/
theorem fX_dense {r : Q4} {p sz gap v : Int} (h1 : 1 ≤ sz) (h2 : 0 ≤ gap) {s : FS} (hd : denseB (cntB (gh s.1) r) r p = true) : ∀ (n : Nat) (u : Int), (r.c + 1 - u).toNat ≤ n → fX r p sz gap v u s = s
  | 0, u, hn => by
    by_cases hc : u + sz ≤ r.c
    · omega
    · exact fX_stop hc
  | n + 1, u, hn => by
    by_cases hc : u + sz ≤ r.c
    · rw [fX_go h1 h2 hc, stepS_skip (by rw [skipS, hd]; rfl), fX_dense h1 h2 hd n _ (by omega)]
    · exact fX_stop hc
theorem fY_dense {r : Q4} {p sz gap : Int} (h1 : 1 ≤ sz) (h2 : 0 ≤ gap) {s : FS} (hd : denseB (cntB (gh s.1) r) r p = true) : ∀ (n : Nat) (v : Int), (r.d + 1 - v).toNat ≤ n → fY r p sz gap v s = s
  | 0, v, hn => by
    by_cases hc : v + sz ≤ r.d
    · omega
    · exact fY_stop hc
  | n + 1, v, hn => by
    by_cases hc : v + sz ≤ r.d
    · rw [fY_go h1 h2 hc, fX_dense h1 h2 hd _ _ (Nat.le_refl _), fY_dense h1 h2 hd n _ (by omega)]
    · exact fY_stop hc
theorem fillL_dense {p sz gap : Int} (h1 : 1 ≤ sz) (h2 : 0 ≤ gap) {s : FS} : ∀ (ws : List Q4), (∀ r ∈ ws, denseB (cntB (gh s.1) r) r p = true) → fillL p sz gap ws s = s
  | [], _ => rfl
  | r :: ws, h => by
    rw [fillL, fillR, fY_dense h1 h2 (h r (by simp)) _ _ (Nat.le_refl _)]
    exact fillL_dense h1 h2 ws (fun t ht => h t (by simp [ht]))
end Go.Proofs.Ytaigndaabmelhaa
