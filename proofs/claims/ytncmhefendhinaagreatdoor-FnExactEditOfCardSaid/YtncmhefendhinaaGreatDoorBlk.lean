/- Contracts of the functions on blocks (within, validBlock, interact, Interact, toBlock and their reference twins), for every input. No condition. -/
import Derived.Test.YtncmhefendhinaaGreatDoorLib
namespace Go.Proofs.YtncmhefendhinaaGreatDoor
open Go.RowKit

def wit (v a b : Int) : Bool := decide (a ≤ v) && decide (v ≤ b)
theorem wit_iff {v a b : Int} : wit v a b = true ↔ a ≤ v ∧ v ≤ b := by simp [wit]
def vblk (q : Q4) : Bool := wit q.a 0 400 && wit q.b 0 400 && wit q.c 1 40 && wit q.d 1 40
theorem vblk_iff {q : Q4} : vblk q = true ↔ (0 ≤ q.a ∧ q.a ≤ 400) ∧ (0 ≤ q.b ∧ q.b ≤ 400) ∧ (1 ≤ q.c ∧ q.c ≤ 40) ∧ (1 ≤ q.d ∧ q.d ≤ 40) := by simp [vblk, wit, and_assoc]
def intr (p q : Q4) (g : Int) : Bool := decide (p.b < q.b + q.d + g) && decide (q.b < p.b + p.d + g)
def Intr (p q : Q4) (g : Int) : Bool := vblk p && vblk q && wit g 0 8 && intr p q g
def B4 (q : Q4) : Value := .agg #[.int .i64 q.a, .int .i64 q.b, .int .i64 q.c, .int .i64 q.d]

set_option maxHeartbeats 400000 in
theorem within_any (v a b : Int) (w : World) :
    Calls Tryz.prog 67 #[.int .i64 v, .int .i64 a, .int .i64 b] w fun e w' => e = .returned (.bool (wit v a b)) ∧ w = w' := by
  by_cases h : a ≤ v
  · go_enter Tryz.func67, Tryz.ntmps67
    go_wp2
    go_ret
    exact ⟨ret_bool (by simp [wit, h]), rfl⟩
  · go_enter Tryz.func67, Tryz.ntmps67
    go_wp2
    go_ret
    exact ⟨ret_bool (by simp [wit]; omega), rfl⟩
set_option maxHeartbeats 400000 in
theorem l09In_any (v a b : Int) (w : World) :
    Calls Tryz.prog 47 #[.int .i64 v, .int .i64 a, .int .i64 b] w fun e w' => e = .returned (.bool (wit v a b)) ∧ w = w' := by
  by_cases h : a ≤ v
  · go_enter Tryz.func47, Tryz.ntmps47
    go_wp2
    go_ret
    exact ⟨ret_bool (by simp [wit, h]), rfl⟩
  · go_enter Tryz.func47, Tryz.ntmps47
    go_wp2
    go_ret
    exact ⟨ret_bool (by simp [wit]; omega), rfl⟩
end Go.Proofs.YtncmhefendhinaaGreatDoor
