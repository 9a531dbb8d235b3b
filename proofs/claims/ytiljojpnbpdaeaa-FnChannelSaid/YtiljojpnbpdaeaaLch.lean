/- The walk of the law FnExactChannelDensity: it returns true at every channel. No condition. -/
import Derived.Test.YtiljojpnbpdaeaaDen
import Derived.Test.YtiljojpnbpdaeaaOpn
import Derived.Deep.RegionHeld3
namespace Go.Proofs.Ytiljojpnbpdaeaa
open Go.RowKit

theorem IsCh.of_owns {w : World} {base : Nat} {e : TypeId} {q1 q2 : Option Addr} {n m : Nat} {t b : List Int} (hn : n ≤ 1048576) (hm : m ≤ 1048576) (lt : t.length = n) (lb : b.length = m)
    (o1 : w.ownsRow base e 1 (.slice q1 n n) n (t.flatMap enc1)) (o2 : w.ownsRow base e 1 (.slice q2 m m) m (b.flatMap enc1)) : IsCh w q1 q2 n m n m t b := by
  refine ⟨SlT.of_owns enc1_len lt o1, SlT.of_owns enc1_len lb o2, hn, hm, ?_, ?_⟩
  · intro h; subst h
    rcases Joins.ownsRow_forms o1 with ⟨h, _⟩ | ⟨g, c, h⟩
    · cases h; exact ⟨rfl, rfl⟩
    · cases h
  · intro h; subst h
    rcases Joins.ownsRow_forms o2 with ⟨h, _⟩ | ⟨g, c, h⟩
    · cases h; exact ⟨rfl, rfl⟩
    · cases h
end Go.Proofs.Ytiljojpnbpdaeaa
