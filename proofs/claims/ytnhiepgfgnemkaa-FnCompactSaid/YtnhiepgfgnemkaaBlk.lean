/- Contracts of the functions on blocks (within, validBlock, interact, Interact, toBlock and their reference twins), for every input. No condition. -/
import Derived.Test.YtnhiepgfgnemkaaLib
namespace Go.Proofs.Ytnhiepgfgnemkaa
open Go.RowKit

def wit (v a b : Int) : Bool := decide (a ≤ v) && decide (v ≤ b)
theorem wit_iff {v a b : Int} : wit v a b = true ↔ a ≤ v ∧ v ≤ b := by simp [wit]
def vblk (q : Q4) : Bool := wit q.a 0 400 && wit q.b 0 400 && wit q.c 1 40 && wit q.d 1 40
theorem vblk_iff {q : Q4} : vblk q = true ↔ (0 ≤ q.a ∧ q.a ≤ 400) ∧ (0 ≤ q.b ∧ q.b ≤ 400) ∧ (1 ≤ q.c ∧ q.c ≤ 40) ∧ (1 ≤ q.d ∧ q.d ≤ 40) := by simp [vblk, wit, and_assoc]
def intr (p q : Q4) (g : Int) : Bool := decide (p.b < q.b + q.d + g) && decide (q.b < p.b + p.d + g)
def Intr (p q : Q4) (g : Int) : Bool := vblk p && vblk q && wit g 0 8 && intr p q g
def B4 (q : Q4) : Value := .agg #[.int .i64 q.a, .int .i64 q.b, .int .i64 q.c, .int .i64 q.d]

set_option maxHeartbeats 400000 in
theorem within_any (v a b : Int) (w : World) :
    Calls Try.prog 93 #[.int .i64 v, .int .i64 a, .int .i64 b] w fun e w' => e = .returned (.bool (wit v a b)) ∧ w = w' := by
  by_cases h : a ≤ v
  · go_enter Try.func93, Try.ntmps93
    go_wp2
    go_ret
    exact ⟨ret_bool (by simp [wit, h]), rfl⟩
  · go_enter Try.func93, Try.ntmps93
    go_wp2
    go_ret
    exact ⟨ret_bool (by simp [wit]; omega), rfl⟩
set_option maxHeartbeats 400000 in
theorem l09In_any (v a b : Int) (w : World) :
    Calls Try.prog 96 #[.int .i64 v, .int .i64 a, .int .i64 b] w fun e w' => e = .returned (.bool (wit v a b)) ∧ w = w' := by
  by_cases h : a ≤ v
  · go_enter Try.func96, Try.ntmps96
    go_wp2
    go_ret
    exact ⟨ret_bool (by simp [wit, h]), rfl⟩
  · go_enter Try.func96, Try.ntmps96
    go_wp2
    go_ret
    exact ⟨ret_bool (by simp [wit]; omega), rfl⟩
set_option maxHeartbeats 400000 in
theorem l31Gap_any (g : Int) (w : World) :
    Calls Try.prog 95 #[.int .i64 g] w fun e w' => e = .returned (.bool (wit g 0 8)) ∧ w = w' := by
  go_enter Try.func95, Try.ntmps95
  go_wp2_with (go_at_call 96; refine (l09In_any _ _ _ _).mono ?_; rintro e w' ⟨rfl, rfl⟩)
  go_ret
  exact ⟨rfl, rfl⟩
set_option maxHeartbeats 400000 in
theorem validBlock_any (q : Q4) (w : World) :
    Calls Try.prog 108 #[.agg #[.int .i64 q.a, .int .i64 q.b, .int .i64 q.c, .int .i64 q.d]] w fun e w' => e = .returned (.bool (vblk q)) ∧ Ext w w' := by
  go_enter Try.func108, Try.ntmps108
  go_wp2_with (go_at_call 93; refine (within_any _ _ _ _).mono ?_; rintro e w' ⟨rfl, rfl⟩)
  all_goals
    go_ret
    refine ⟨ret_bool ?_, (Ext.refl _).alloc _⟩
    simp [vblk, *]
set_option maxHeartbeats 400000 in
theorem l31Block_any (q : Q4) (w : World) :
    Calls Try.prog 115 #[.agg #[.int .i64 q.a, .int .i64 q.b, .int .i64 q.c, .int .i64 q.d]] w fun e w' => e = .returned (.bool (vblk q)) ∧ Ext w w' := by
  go_enter Try.func115, Try.ntmps115
  go_wp2_with (go_at_call 96; refine (l09In_any _ _ _ _).mono ?_; rintro e w' ⟨rfl, rfl⟩)
  all_goals
    go_ret
    refine ⟨ret_bool ?_, (Ext.refl _).alloc _⟩
    simp [vblk, *]
set_option maxHeartbeats 400000 in
theorem interact_any (p q : Q4) (g : Int) (w : World) (hp : vblk p = true) (hq : vblk q = true) (hg : wit g 0 8 = true) :
    Calls Try.prog 101 #[.agg #[.int .i64 p.a, .int .i64 p.b, .int .i64 p.c, .int .i64 p.d], .agg #[.int .i64 q.a, .int .i64 q.b, .int .i64 q.c, .int .i64 q.d], .int .i64 g] w
      fun e w' => e = .returned (.bool (intr p q g)) ∧ Ext w w' := by
  rw [vblk_iff] at hp hq
  rw [wit_iff] at hg
  obtain ⟨⟨p1, p2⟩, ⟨p3, p4⟩, ⟨p5, p6⟩, ⟨p7, p8⟩⟩ := hp
  obtain ⟨⟨q1, q2⟩, ⟨q3, q4⟩, ⟨q5, q6⟩, ⟨q7, q8⟩⟩ := hq
  obtain ⟨g1, g2⟩ := hg
  by_cases h : p.b < q.b + q.d + g
  all_goals
    go_enter Try.func101, Try.ntmps101
    go_wp2
    go_ret
    refine ⟨ret_bool ?_, ((Ext.refl _).alloc _).alloc _⟩
    simp [intr]
    try omega
set_option maxHeartbeats 400000 in
theorem l31Interact_any (p q : Q4) (g : Int) (w : World) (hp : vblk p = true) (hq : vblk q = true) (hg : wit g 0 8 = true) :
    Calls Try.prog 97 #[.agg #[.int .i64 p.a, .int .i64 p.b, .int .i64 p.c, .int .i64 p.d], .agg #[.int .i64 q.a, .int .i64 q.b, .int .i64 q.c, .int .i64 q.d], .int .i64 g] w
      fun e w' => e = .returned (.bool (intr p q g)) ∧ Ext w w' := by
  rw [vblk_iff] at hp hq
  rw [wit_iff] at hg
  obtain ⟨⟨p1, p2⟩, ⟨p3, p4⟩, ⟨p5, p6⟩, ⟨p7, p8⟩⟩ := hp
  obtain ⟨⟨q1, q2⟩, ⟨q3, q4⟩, ⟨q5, q6⟩, ⟨q7, q8⟩⟩ := hq
  obtain ⟨g1, g2⟩ := hg
  by_cases h : p.b < q.b + q.d + g
  all_goals
    go_enter Try.func97, Try.ntmps97
    go_wp2
    go_ret
    refine ⟨ret_bool ?_, ((Ext.refl _).alloc _).alloc _⟩
    simp [intr]
    try omega
end Go.Proofs.Ytnhiepgfgnemkaa
