/- Contracts of slices.Index and Contains at points, of l32Adjacent. Condition: coordinates within 1000 where they are subtracted. -/
import Derived.Test.YtiljojpnbpdaeaaNer
namespace Go.Proofs.Ytiljojpnbpdaeaa
open Go.RowKit

theorem eq2 (x y : Q2) (w : World) : (Op.equalIn 10000 47 (V2 x) (V2 y)).run Try.prog w = .ok (decide (x = y)) w := by
  have u := Try.underlying2
  have a := Try.isAgg2
  have z := Try.sizeOf2
  have hS : Try.prog.underlying 47 = some (.struct (Try.prog.fieldsOf 47)) := by kernel_rfl
  rw [show (10000 : Nat) = 9999 + 1 from rfl, V2, V2, run_equalIn_agg w 9999 _ _ _ hS Try.stoodInHeld47]
  simp only [Program.fieldsOf, Try.underlying47]
  go_simp
  have hd : decide (x = y) = (x.a == y.a && x.b == y.b) := by
    rw [Bool.eq_iff_iff]; cases x; cases y; simp
  rw [hd]
  by_cases h1 : x.a = y.a <;> by_cases h2 : x.b = y.b <;> simp [h1, h2]
theorem guard2 : Try.prog.eqGuardType Try.prog.depth 47 = false := by kernel_rfl
section
variable {C : World → Prop} {a : Act} {o : Oper} {K : Act → Prop}
theorem quiet_eql2 (t' : TypeId) (x y : Operand) (h : o.op = .binOp .eql 47 x y t') (p q : Q2) (hx : a.eval x = V2 p) (hy : a.eval y = V2 q) (r : Bool) (hr : decide (p = q) = r) (hk : K (a.put o.dst (.bool r))) : o.quiet Try.prog a C K :=
  ⟨_, fun w _ => by
    unfold Oper.quietAt execOp
    have h1 := eq2 p q w
    unfold V2 at h1 hx hy
    simp only [h, hx, hy, Sem.run_bind, run_eqGuard_agg w .eql _ x y _ _ guard2, Result.andThen_ok, run_eql_struct, h1, hr, Sem.run_pure]
    exact ⟨rfl, rfl⟩, hk⟩
end
set_option maxRecDepth 100000 in
set_option maxHeartbeats 4000000 in
theorem indexPt_any (q : Option Addr) (n c : Nat) (l : List Q2) (p : Q2) (w : World) (h : SlT enc2 2 w q n l) (hn : n ≤ 1048576) :
    Calls Try.prog 119 #[.slice q n c, .agg #[.int .i64 p.a, .int .i64 p.b]] w fun e w' => e = .returned (.int .i64 (idx (fun x => decide (p = x)) l)) ∧ Ext w w' := by
  have hl := hid h.length
  go_enter Try.func119, Try.ntmps119
  go_wp2
  generalize hW : w.alloc _ = W0
  obtain ⟨E0, z0, b0⟩ := boxes1 hW
  clear hW
  have hb0 := hid (show Blk W0 w.heap.size [_, _] _ from b0)
  clear b0
  replace z0 := hid z0
  go_loopw [5, 8] (fun _ i wr => ∃ k : Nat, k ≤ n ∧ i = .int .i64 k ∧ Ext W0 wr ∧ Hid ((l.take k).any (fun x => decide (p = x)) = false)) (fun _ i _ => n - (intOf i).toNat)
  case atStart => exact ⟨0, by omega, rfl, Ext.refl _, rfl⟩
  case round =>
    obtain ⟨k, hk, rfl, hE, hA⟩ := hrel
    by_cases hlt : k < n
    · obtain ⟨b, off, x, rfl, hb, hx, c0, c1⟩ := (h.ext (E0.trans hE)).two hlt
      have hkI : (k : Int) < n := by omega
      have g := (hb0.out.ext hE).cells
      have g0 := g 0
      have g1 := g 1
      simp only [List.getElem?_cons_zero, List.getElem?_cons_succ] at g0 g1
      have hBl := (hb0.out.ext hE).lt
      clear g
      cases hq : decide (p = x) with
      | true =>
        have hr : Hid (idx (fun x => decide (p = x)) l = k) := idx_hit hA.out hx.out hq
        have hq' := hid hq
        clear hq
        go_wp2_with fail
        refine wp_region_later (by kernel_rfl) (by kernel_rfl) ?_
        repeat (go_big_quiet_step (fail))
        go_big_quiet_want
        refine quiet_eql2 _ _ _ rfl p x rfl rfl true hq'.out ?_
        go_simp
        go_big_quiet_on
        repeat (go_big_quiet_step (fail))
        refine wpQuiet_nil ?_
        rintro w2 ⟨⟨_, E2⟩, rfl⟩
        have hE2 := hid ((E0.trans hE).trans E2)
        clear E2 c0 c1 g0 g1 hE
        go_wp2_with fail
        go_ret
        exact ⟨ret_int hr.out.symm, hE2.out⟩
      | false =>
        have hr : Hid ((l.take (k + 1)).any (fun x => decide (p = x)) = false) := any_take_snoc hA.out hx.out hq
        have hq' := hid hq
        clear hq
        go_wp2_with fail
        refine wp_region_later (by kernel_rfl) (by kernel_rfl) ?_
        repeat (go_big_quiet_step (fail))
        go_big_quiet_want
        refine quiet_eql2 _ _ _ rfl p x rfl rfl false hq'.out ?_
        go_simp
        go_big_quiet_on
        repeat (go_big_quiet_step (fail))
        refine wpQuiet_nil ?_
        rintro w2 ⟨⟨_, E2⟩, rfl⟩
        have hE2 := hid (hE.trans E2)
        clear E2 c0 c1 g0 g1 hE
        go_wp2_with fail
        go_roundw
        case rel => exact ⟨k + 1, by omega, by go_num, hE2.out, hr⟩
        case measure => simp [intOf]; omega
    · have hr : Hid (idx (fun x => decide (p = x)) l = -1) := by
        have := hA.out
        rw [take_all hl.out (by omega)] at this
        exact idx_miss this
      go_wp2_with fail
      go_ret
      exact ⟨ret_int hr.out.symm, E0.trans hE⟩
set_option maxHeartbeats 1000000 in
theorem containsPt_any (q : Option Addr) (n c : Nat) (l : List Q2) (p : Q2) (w : World) (h : SlT enc2 2 w q n l) (hn : n ≤ 1048576) :
    Calls Try.prog 86 #[.slice q n c, .agg #[.int .i64 p.a, .int .i64 p.b]] w fun e w' => e = .returned (.bool (decide (p ∈ l))) ∧ Ext w w' := by
  have hr : Hid (decide (0 ≤ idx (fun x => decide (p = x)) l) = decide (p ∈ l)) := by
    show _ = _
    rw [idx_any, Bool.eq_iff_iff]
    simp
  go_enter Try.func86, Try.ntmps86
  go_wp2_with fail
  refine (indexPt_any q n c l p _ (h.ext ((Ext.refl _).alloc _)) hn).mono ?_
  rintro e w2 ⟨rfl, E2⟩
  go_wp2_with fail
  go_ret
  exact ⟨ret_bool hr.out, ((Ext.refl _).alloc _).trans E2⟩
/-- Two unit cells are neighbors. -/
def adjB (a b : Q2) : Bool := decide (max (a.a - b.a) (b.a - a.a) + max (a.b - b.b) (b.b - a.b) = 1)
theorem adj_near {a b : Q2} (h : onC b.a b.b = true) : decide (b ∈ nearL a) = adjB a b := by
  rw [Bool.eq_iff_iff, decide_eq_true_eq, adjB, decide_eq_true_eq, nearL, List.mem_filter]
  obtain ⟨x, y⟩ := a
  obtain ⟨u, v⟩ := b
  simp only [all4, List.mem_cons, List.not_mem_nil, or_false, Q2.mk.injEq]
  simp only at h
  rw [h]
  simp only [and_true]
  omega
set_option maxHeartbeats 4000000 in
theorem l32Adjacent_any (a b : Q2) (w : World) (ha : NearP a) (hb : NearP b) :
    Calls Try.prog 55 #[.agg #[.int .i64 a.a, .int .i64 a.b], .agg #[.int .i64 b.a, .int .i64 b.b]] w fun e w' => e = .returned (.bool (adjB a b)) ∧ Ext w w' := by
  obtain ⟨⟨a0, a1⟩, a2, a3⟩ := ha
  obtain ⟨⟨b0, b1⟩, b2, b3⟩ := hb
  obtain ⟨D, hD⟩ : ∃ D, D = max (a.a - b.a) (b.a - a.a) := ⟨_, rfl⟩
  obtain ⟨G, hG⟩ : ∃ G, G = max (a.b - b.b) (b.b - a.b) := ⟨_, rfl⟩
  have hr : Hid (decide (D + G = 1) = adjB a b) := by show _ = _; rw [adjB, hD, hG]
  have hDc : (a.a - b.a < b.a - a.a ∧ D = b.a - a.a) ∨ (b.a - a.a ≤ a.a - b.a ∧ D = a.a - b.a) := by omega
  have hGc : (a.b - b.b < b.b - a.b ∧ G = b.b - a.b) ∨ (b.b - a.b ≤ a.b - b.b ∧ G = a.b - b.b) := by omega
  clear hD hG
  rcases hDc with ⟨d0, rfl⟩ | ⟨d0, rfl⟩ <;> rcases hGc with ⟨e0, rfl⟩ | ⟨e0, rfl⟩
  all_goals
    go_enter Try.func55, Try.ntmps55
    go_wp2
    go_ret
    refine ⟨ret_bool ?_, ((Ext.refl _).alloc _).alloc _⟩
    rw [← hr.out, Bool.eq_iff_iff]
    simp
end Go.Proofs.Ytiljojpnbpdaeaa
