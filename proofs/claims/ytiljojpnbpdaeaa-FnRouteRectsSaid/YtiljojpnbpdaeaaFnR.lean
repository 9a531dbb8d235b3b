/- Contracts of slices.IndexFunc and slices.ContainsFunc at rectangles, for whatever predicate that only makes memory. Condition: at most 2^20 elements. -/
import Derived.Test.YtiljojpnbpdaeaaRg3
import Derived.Shelf.Abstract
namespace Go.Proofs.Ytiljojpnbpdaeaa
open Go.RowKit

/-- What is asked of a predicate on elements: at every element, in every world that has grown out of w, it answers p and only makes memory. -/
def PredR (g : Nat) (lb : Array Value) (p : Q4 → Bool) (l : List Q4) (w : World) : Prop := ∀ (W : World) (x : Q4), Ext w W → x ∈ l → Calls Try.prog g (#[.agg #[.int .i64 x.a, .int .i64 x.b, .int .i64 x.c, .int .i64 x.d]] ++ lb) W fun e w' => e = .returned (.bool (p x)) ∧ Ext W w'
end Go.Proofs.Ytiljojpnbpdaeaa
