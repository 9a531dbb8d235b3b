/- Contract of RouteDistance (program). Condition: at most 2^20 rectangles. -/
import Derived.Test.YtiljojpnbpdaeaaSho
namespace Go.Proofs.Ytiljojpnbpdaeaa
open Go.RowKit Go.Maps

/-- The distance that RouteDistance tells. -/
def rdL (l : List Q4) (a b : Q2) : Int := if srC l a b = 0 then (bfs (gL l) b).1 a else -1
theorem srC_zero {l : List Q4} {a b : Q2} (h : srC l a b = 0) : onC a.a a.b = true ∧ onC b.a b.b = true ∧ 0 ≤ (bfs (gL l) b).1 a := by
  rw [srC] at h
  split at h
  · omega
  · rename_i h1
    split at h
    · omega
    · split at h
      · omega
      · rename_i h3
        rw [Bool.not_eq_false] at h1
        simp only [Bool.and_eq_true] at h1
        exact ⟨h1.1.2, h1.2, by omega⟩
theorem srL_dist {l : List Q4} {a b : Q2} (h : srC l a b = 0) : ((srL l a b).length : Int) = (bfs (gL l) b).1 a + 1 := by
  rw [srL, if_pos h, pathN_len]
  have := (srC_zero h).2.2
  omega
end Go.Proofs.Ytiljojpnbpdaeaa
