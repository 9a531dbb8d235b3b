/- Points as keys of maps. No condition. -/
import Derived.Test.YtaigndaabmelhaaRg1
import Derived.Maps.Own
import Derived.Maps.OwnOps
import Derived.Maps.OwnSet
import Derived.DeepKeys4
namespace Go.Proofs.Ytaigndaabmelhaa
open Go.RowKit Go.Maps

theorem laidP : laidOutB Try.prog = true := by kernel_rfl
theorem rowP : (138 : TypeId) < Try.prog.types.size := of_decide_eq_true (by kernel_rfl)
theorem kindP : Try.prog.keyTypeAt 2 138 = true := by kernel_rfl
theorem lawP : Keyed Try.prog 138 := Keyed.of_law (deep_law_laid laidP (m := 2) (of_decide_eq_true (by kernel_rfl)) rowP kindP (by kernel_rfl))
def V2 (p : Q2) : Value := .agg #[.int .i64 p.a, .int .i64 p.b]
def kP (p : Q2) : Lit := .string (keyBytes [.int .i64 p.a, .int .i64 p.b])
def okP (p : Q2) : Prop := (Lit.int .i64 p.a).wf = true ∧ (Lit.int .i64 p.b).wf = true
theorem keyP {p : Q2} (h : okP p) : keyOf Try.prog 138 (V2 p) = some (kP p) := by
  have hk : Try.prog.keyType 138 = true := by kernel_rfl
  have hc : Try.prog.cellsOf 138 = 2 := by kernel_rfl
  have hc1 : Try.prog.cellsOf 2 = 1 := by kernel_rfl
  rw [keyOf, Try.underlying138]
  have hz0 : 0 < Try.prog.types.size := of_decide_eq_true (by kernel_rfl)
  have hz : Try.prog.types.size = (Try.prog.types.size - 1) + 1 := by omega
  simp only [hk, V2, Value.formed, Try.underlying138, hc, Value.cells]
  rw [hz]
  unfold Program.keyLits
  simp only [Try.underlying138, hc]
  unfold Program.keyLits
  simp [Try.underlying2, hc1, h.1, h.2, kP]
end Go.Proofs.Ytaigndaabmelhaa
