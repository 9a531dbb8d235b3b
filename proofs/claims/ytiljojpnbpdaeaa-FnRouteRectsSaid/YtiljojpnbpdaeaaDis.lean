/- Contract of distances (program): the search from a unit cell that is not blocked. Condition: the unit cell is on the chip. -/
import Derived.Test.YtiljojpnbpdaeaaRch
namespace Go.Proofs.Ytiljojpnbpdaeaa
open Go.RowKit Go.Maps

abbrev MapPI (w : World) (M n : Nat) (f : Q2 → Option Int) : Prop := MapI Try.prog 47 2 kP okP w M n f
theorem zeroI (w : World) : (zeroValue 2).run Try.prog w = .ok (.int .i64 0) w := Try.zeroValue2 w
theorem mapF0 (p : Q2) : upd (fun _ => none) p 0 = mapF (bfs0 p).1 := by
  funext x
  rw [upd, mapF, bfs0]
  by_cases e : x = p <;> simp [e]
theorem owns_cells {w : World} {B base : Nat} {cs : List Value} {e : TypeId} {n size : Nat} (h : w.heap[B]? = some (.cells cs.toArray e (0, 0))) (hb : base ≤ B) (hl : cs.length = n * size) (hn : n ≤ maxLen) : w.ownsRow base e size (.slice (some ⟨B, 0, none⟩) n n) n cs :=
  ⟨hl, .inr ⟨B, n, cs.toArray, rfl, hb, h, Nat.le_refl _, hn, by simp [hl], by simp [← hl]⟩⟩
/-- What the search leaves. -/
def DistB (g : Grid) (p : Q2) (w : World) (e : Ending) (w' : World) : Prop := ∃ M, e = .returned (.map (some M)) ∧ MapPI w' M 6400 (mapF (bfs g p).1) ∧ Ext w w'
end Go.Proofs.Ytiljojpnbpdaeaa
