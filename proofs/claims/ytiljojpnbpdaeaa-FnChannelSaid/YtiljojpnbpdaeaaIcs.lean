/- Contract of the reference's IsChannelRouting. Condition: at most 2^20 tracks. -/
import Derived.Test.YtiljojpnbpdaeaaIcr
namespace Go.Proofs.Ytiljojpnbpdaeaa
open Go.RowKit Go.Maps

def okS (t b : List Int) (S : List Q3) (tr : List Int) (N i : Nat) : Prop := ∀ s x, S[i]? = some s → tr[i]? = some x → (1 ≤ x ∧ x ≤ 12) ∧ ∀ k, k < N → ∀ u y, S[k]? = some u → tr[k]? = some y →
  ¬ (i ≠ k ∧ x = y ∧ s.b ≤ u.c ∧ u.b ≤ s.c) ∧ ¬ (aboveB t b s.a u.a = true ∧ y ≤ x)
/-- What the reference's IsChannelRouting tells. -/
def isCRs (t b tr : List Int) : Prop := chOk t b = true ∧ tr.length = (spansL t b).length ∧ ∀ i, i < (spansL t b).length → okS t b (spansL t b) tr (spansL t b).length i
theorem okS_step {t b : List Int} {S : List Q3} {tr : List Int} {i k : Nat} {s : Q3} {x : Int} {u : Q3} {y : Int}
    (h : ∀ k', k' < k → ∀ u y, S[k']? = some u → tr[k']? = some y → ¬ (i ≠ k' ∧ x = y ∧ s.b ≤ u.c ∧ u.b ≤ s.c) ∧ ¬ (aboveB t b s.a u.a = true ∧ y ≤ x))
    (hu : S[k]? = some u) (hy : tr[k]? = some y) (h1 : ¬ (i ≠ k ∧ x = y ∧ s.b ≤ u.c ∧ u.b ≤ s.c)) (h2 : ¬ (aboveB t b s.a u.a = true ∧ y ≤ x)) :
    ∀ k', k' < k + 1 → ∀ u y, S[k']? = some u → tr[k']? = some y → ¬ (i ≠ k' ∧ x = y ∧ s.b ≤ u.c ∧ u.b ≤ s.c) ∧ ¬ (aboveB t b s.a u.a = true ∧ y ≤ x) := by
  intro k' hk u' y' hu' hy'
  by_cases hkk : k' = k
  · subst hkk
    rw [hu] at hu'; rw [hy] at hy'; cases hu'; cases hy'
    exact ⟨h1, h2⟩
  · exact h k' (by omega) u' y' hu' hy'
theorem okS_next {t b : List Int} {S : List Q3} {tr : List Int} {N i : Nat} {s : Q3} {x : Int} (h : ∀ i', i' < i → okS t b S tr N i') (hs : S[i]? = some s) (hx : tr[i]? = some x) (hxb : 1 ≤ x ∧ x ≤ 12)
    (hR : ∀ k', k' < N → ∀ u y, S[k']? = some u → tr[k']? = some y → ¬ (i ≠ k' ∧ x = y ∧ s.b ≤ u.c ∧ u.b ≤ s.c) ∧ ¬ (aboveB t b s.a u.a = true ∧ y ≤ x)) : ∀ i', i' < i + 1 → okS t b S tr N i' := by
  intro i' hi
  by_cases hij : i' = i
  · subst hij
    intro s' x' hs' hx'
    rw [hs] at hs'; rw [hx] at hx'; cases hs'; cases hx'
    exact ⟨hxb, hR⟩
  · exact h i' (by omega)
end Go.Proofs.Ytiljojpnbpdaeaa
