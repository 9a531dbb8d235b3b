/- Contracts of contains, RectContains, FloodRegion (program). Condition: at most 2^20 rectangles. -/
import Derived.Test.YtiljojpnbpdaeaaFlo
import Derived.Test.YtiljojpnbpdaeaaReg
import Derived.Test.YtiljojpnbpdaeaaFnR
import Derived.Deep.RegionHeld3
namespace Go.Proofs.Ytiljojpnbpdaeaa
open Go.RowKit

theorem owns_low {w : World} {b b' size n : Nat} {e : TypeId} {v : Value} {xs : List Value} (h : w.ownsRow b e size v n xs) (hb : b' ≤ b) : w.ownsRow b' e size v n xs :=
  ⟨h.1, h.2.elim Or.inl (fun ⟨g, cap, cur, hv, hg, r⟩ => Or.inr ⟨g, cap, cur, hv, Nat.le_trans hb hg, r⟩)⟩
/-- The region that FloodRegion tells. -/
def frL (l : List Q4) (a : Q2) : List Q4 := if (isReg l && onC a.a a.b && !gh (gL l) a.a a.b) = true then canon (gD (bfs (gL l) a).1) else []
theorem frL_len (l : List Q4) (a : Q2) : (frL l a).length ≤ 3200 := by
  rw [frL]; split
  · exact canon_len _
  · simp
theorem floodG_bfs (g : Grid) {p : Q2} (h : onC p.a p.b = true) : floodG (gnot g) false p = gD (bfs g p).1 := by
  rw [floodG, gD, gD]
  congr 1
  funext x y
  rw [decide_eq_decide]
  exact flood_bfs g h ⟨x, y⟩
theorem reg_none {l : List Q4} {w w' : World} (h : l = []) (hE : Ext w w') : RegB l w (.returned (.slice none 0 0)) w' := by
  subst h
  exact ⟨none, 0, rfl, World.ownsRow_nil _ _ _ _, hE⟩
theorem gL_gh {l : List Q4} {x y : Int} (h : onC x y = true) : gh (gL l) x y = inL l x y := by rw [gL, gh_gmk _ h]
end Go.Proofs.Ytiljojpnbpdaeaa
