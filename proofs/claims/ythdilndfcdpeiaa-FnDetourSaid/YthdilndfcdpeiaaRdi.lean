/- Contract of RouteDistance (program). Condition: at most 2^20 rectangles. -/
import Derived.Test.YthdilndfcdpeiaaSho
namespace Go.Proofs.Ythdilndfcdpeiaa
open Go.RowKit Go.Maps

/-- The distance that RouteDistance tells. -/
def rdL (l : List Q4) (a b : Q2) : Int := if srC l a b = 0 then (bfs (gL l) b).1 a else -1
theorem srC_zero {l : List Q4} {a b : Q2} (h : srC l a b = 0) : onC a.a a.b = true ∧ onC b.a b.b = true ∧ 0 ≤ (bfs (gL l) b).1 a := by
  rw [srC] at h
  split at h
  · omega
  · rename_i h1
    split at h
    · omega
    · split at h
      · omega
      · rename_i h3
        rw [Bool.not_eq_false] at h1
        simp only [Bool.and_eq_true] at h1
        exact ⟨h1.1.2, h1.2, by omega⟩
theorem srL_dist {l : List Q4} {a b : Q2} (h : srC l a b = 0) : ((srL l a b).length : Int) = (bfs (gL l) b).1 a + 1 := by
  rw [srL, if_pos h, pathN_len]
  have := (srC_zero h).2.2
  omega
set_option maxRecDepth 100000 in
set_option maxHeartbeats 4000000 in
theorem RouteDistance_any (q : Option Addr) (n c : Nat) (l : List Q4) (a b : Q2) (w : World) (h : SlT enc4 4 w q n l) (hn : n ≤ 1048576) :
    Calls Try.prog 18 #[.slice q n c, .agg #[.int .i64 a.a, .int .i64 a.b], .agg #[.int .i64 b.a, .int .i64 b.b]] w fun e w' => e = .returned (.int .i64 (rdL l a b)) ∧ Ext w w' := by
  obtain ⟨C, hC⟩ : ∃ C, C = srC l a b := ⟨_, rfl⟩
  obtain ⟨L, hL⟩ : ∃ L, L = (srL l a b).length := ⟨_, rfl⟩
  have hLl := srL_len l a b
  rw [← hL] at hLl
  have hcall : ∀ W, Ext w W → Calls Try.prog 17 #[.slice q n c, .agg #[.int .i64 a.a, .int .i64 a.b], .agg #[.int .i64 b.a, .int .i64 b.b]] W fun e w' => ∃ p d, e = .returned (.tuple #[.slice p L d, .int .i64 C]) ∧ Ext W w' :=
    fun W hW => (ShortestRoute_any q n c l a b W (h.ext hW) hn).mono fun e w' ⟨p, d, he, _, hE⟩ => ⟨p, d, by rw [hL, hC]; exact he, hE⟩
  have hr : rdL l a b = if C = 0 then (L : Int) - 1 else -1 := by
    rw [rdL, ← hC]
    split
    · rename_i h0
      have := srL_dist (l := l) (a := a) (b := b) (by omega)
      omega
    · rfl
  replace hC := hid hC
  replace hL := hid hL
  replace hr := hid hr
  replace hcall := hid hcall
  go_enter Try.func18, Try.ntmps18
  go_wp2_with fail
  generalize hW : (w.alloc _).alloc _ = W0
  obtain ⟨E0, z0, bA, bB⟩ := boxes2 hW
  clear hW
  have hA := show Blk W0 w.heap.size [.int .i64 a.a, .int .i64 a.b] _ from bA
  have hB := show Blk W0 (w.heap.size + 1) [.int .i64 b.a, .int .i64 b.b] _ from bB
  clear bA bB
  have gA := hA.cells
  have gB := hB.cells
  have a0 := gA 0
  have a1 := gA 1
  have b0 := gB 0
  have b1 := gB 1
  simp only [List.getElem?_cons_zero, List.getElem?_cons_succ] at a0 a1 b0 b1
  have hlA := hA.lt
  have hlB := hB.lt
  clear gA gB
  replace hA := hid hA
  replace hB := hid hB
  replace z0 := hid z0
  go_wp2_with fail
  refine (hcall.out _ E0).mono ?_
  rintro e w1 ⟨p, d, rfl, E1⟩
  have hwm : IntKind.i64.wrap ((L : Int) - 1) = (L : Int) - 1 := IntWalk.i64_in _ (by omega)
  by_cases h0 : C = 0
  · subst h0
    clear a0 a1 b0 b1 hlA hlB
    go_wp2_with fail
    go_ret
    exact ⟨by rw [hr.out]; simp, E0.trans E1⟩
  · have hb : (C == (0 : Int)) = false := by simpa using h0
    clear a0 a1 b0 b1 hlA hlB
    go_wp2_with fail
    go_ret
    exact ⟨by rw [hr.out]; simp [h0], E0.trans E1⟩
end Go.Proofs.Ythdilndfcdpeiaa
