/- Contracts of slices.Index and Contains at points, of l32Adjacent. Condition: coordinates within 1000 where they are subtracted. -/
import Derived.Test.YtaigndaabmelhaaNer
namespace Go.Proofs.Ytaigndaabmelhaa
open Go.RowKit

theorem eq2 (x y : Q2) (w : World) : (Op.equalIn 10000 138 (V2 x) (V2 y)).run Try.prog w = .ok (decide (x = y)) w := by
  have u := Try.underlying2
  have a := Try.isAgg2
  have z := Try.sizeOf2
  have hS : Try.prog.underlying 138 = some (.struct (Try.prog.fieldsOf 138)) := by kernel_rfl
  rw [show (10000 : Nat) = 9999 + 1 from rfl, V2, V2, run_equalIn_agg w 9999 _ _ _ hS Try.stoodInHeld138]
  simp only [Program.fieldsOf, Try.underlying138]
  go_simp
  have hd : decide (x = y) = (x.a == y.a && x.b == y.b) := by
    rw [Bool.eq_iff_iff]; cases x; cases y; simp
  rw [hd]
  by_cases h1 : x.a = y.a <;> by_cases h2 : x.b = y.b <;> simp [h1, h2]
theorem guard2 : Try.prog.eqGuardType Try.prog.depth 138 = false := by kernel_rfl
section
variable {C : World → Prop} {a : Act} {o : Oper} {K : Act → Prop}
theorem quiet_eql2 (t' : TypeId) (x y : Operand) (h : o.op = .binOp .eql 138 x y t') (p q : Q2) (hx : a.eval x = V2 p) (hy : a.eval y = V2 q) (r : Bool) (hr : decide (p = q) = r) (hk : K (a.put o.dst (.bool r))) : o.quiet Try.prog a C K :=
  ⟨_, fun w _ => by
    unfold Oper.quietAt execOp
    have h1 := eq2 p q w
    unfold V2 at h1 hx hy
    simp only [h, hx, hy, Sem.run_bind, run_eqGuard_agg w .eql _ x y _ _ guard2, Result.andThen_ok, run_eql_struct, h1, hr, Sem.run_pure]
    exact ⟨rfl, rfl⟩, hk⟩
end
/-- Two unit cells are neighbors. -/
def adjB (a b : Q2) : Bool := decide (max (a.a - b.a) (b.a - a.a) + max (a.b - b.b) (b.b - a.b) = 1)
theorem adj_near {a b : Q2} (h : onC b.a b.b = true) : decide (b ∈ nearL a) = adjB a b := by
  rw [Bool.eq_iff_iff, decide_eq_true_eq, adjB, decide_eq_true_eq, nearL, List.mem_filter]
  obtain ⟨x, y⟩ := a
  obtain ⟨u, v⟩ := b
  simp only [all4, List.mem_cons, List.not_mem_nil, or_false, Q2.mk.injEq]
  simp only at h
  rw [h]
  simp only [and_true]
  omega
end Go.Proofs.Ytaigndaabmelhaa
