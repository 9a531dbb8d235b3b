/- Contract of the comparison of constraints, as slices.SortFunc asks it. No condition. -/
import Derived.Test.YtnhiepgfgnemkaaCst
import Derived.Shelf.SlSortCmp.WholeK
import Derived.StillTailTactics
namespace Go.Proofs.Ytnhiepgfgnemkaa
open Go.RowKit Go.Sort

def orI (a b : Int) : Int := if a = 0 then b else a
def cf3 (x y : Q3) : Int := orI (cmpI x.a y.a) (cmpI x.b y.b)
set_option maxHeartbeats 1000000 in
theorem cmpOr_any (B : Nat) (a b : Int) (w : World) (t : TypeId) (hb : Blk w B [.int .i64 a, .int .i64 b] t) :
    Calls Try.prog 104 #[.slice (some ⟨B, 0, none⟩) 2 2] w fun e w' => e = .returned (.int .i64 (orI a b)) ∧ w = w' := by
  have g := hb.cells
  go_enter Try.func104, Try.ntmps104
  go_wp2
  go_loop [5, 8] (fun _ i => ∃ k : Nat, k ≤ 2 ∧ i = .int .i64 k ∧ Hid ((1 ≤ k → a = 0) ∧ (k = 2 → b = 0))) (fun _ i => 2 - (intOf i).toNat)
  case atStart => exact ⟨0, by omega, rfl, by constructor <;> intro h <;> omega⟩
  case round =>
    obtain ⟨k, hk, rfl, hI⟩ := hrel
    rcases (show k = 0 ∨ k = 1 ∨ k = 2 by omega) with rfl | rfl | rfl
    · by_cases ha : a = 0
      · have hI' : Hid ((1 ≤ 1 → a = 0) ∧ (1 = 2 → b = 0)) := ⟨fun _ => ha, fun h => by omega⟩
        rw [show ((0 : Nat) : Int) = 0 from rfl]
        go_wp2
        go_round
        case rel => exact ⟨1, by omega, by go_num, hI'⟩
        case measure => simp [intOf]
      · have hr : Hid (a = orI a b) := by show _ = _; rw [orI, if_neg ha]
        rw [show ((0 : Nat) : Int) = 0 from rfl]
        go_wp2
        go_ret
        exact ⟨ret_int hr.out, rfl⟩
    · have ha := hid (hI.out.1 (by omega))
      by_cases hb0 : b = 0
      · have hI' : Hid ((1 ≤ 2 → a = 0) ∧ (2 = 2 → b = 0)) := ⟨fun _ => ha.out, fun _ => hb0⟩
        rw [show ((1 : Nat) : Int) = 1 from rfl]
        go_wp2
        go_round
        case rel => exact ⟨2, by omega, by go_num, hI'⟩
        case measure => simp [intOf]
      · have hr : Hid (b = orI a b) := by show _ = _; rw [orI, if_pos ha.out]
        rw [show ((1 : Nat) : Int) = 1 from rfl]
        go_wp2
        go_ret
        exact ⟨ret_int hr.out, rfl⟩
    · have hr : Hid (0 = orI a b) := by show _ = _; rw [orI, if_pos (hI.out.1 (by omega)), hI.out.2 rfl]
      rw [show ((2 : Nat) : Int) = 2 from rfl]
      go_wp2
      go_ret
      exact ⟨ret_int hr.out, rfl⟩
set_option maxRecDepth 100000 in
set_option maxHeartbeats 4000000 in
theorem closure_any (x y : Q3) (W : World) : Calls Try.prog 103 #[.agg #[.int .i64 x.a, .int .i64 x.b, .int .i64 x.c], .agg #[.int .i64 y.a, .int .i64 y.b, .int .i64 y.c]] W fun e w' => e = .returned (.int .i64 (cf3 x y)) ∧ ∃ q os', w' = grow (W.drewN q) os' := by
  have hr : Hid (orI (cmpI x.a y.a) (cmpI x.b y.b) = cf3 x y) := rfl
  go_enter Try.func103, Try.ntmps103
  go_wp2_with fail
  generalize hW : (W.alloc _).alloc _ = W0
  obtain ⟨E0, z0, b1, b2⟩ := boxes2 hW
  have hG : Hid (∃ os, W0 = grow W os) := by
    show _
    rw [← hW, alloc_eq_grow, alloc_eq_grow, grow_grow]; exact ⟨_, rfl⟩
  clear hW
  replace z0 := hid z0
  have g1 := (show Blk W0 _ [_, _, _] _ from b1).cells
  have g2 := (show Blk W0 _ [_, _, _] _ from b2).cells
  clear b1 b2
  refine wp_region_still_tail 10 (by kernel_rfl) (by kernel_rfl) ?_
  simp only [List.take_succ_cons, List.take_zero, List.drop_succ_cons, List.drop_zero]
  still_step
  still_step
  still_step
  still_step
  still_call ((compare_any _ _ _).mono fun _ _ h => ⟨h.1, h.2.symm⟩)
  still_step
  still_step
  still_step
  still_step
  still_call ((compare_any _ _ _).mono fun _ _ h => ⟨h.1, h.2.symm⟩)
  refine wpStill_nil ?_
  change wpList _ _ _ _ _ W0.drew
  go_wp2_with (go_at_call 104; refine (cmpOr_any _ _ _ _ 3 (Blk.drew (Blk.new _ [_, _] _))).mono ?_; rintro e w' ⟨rfl, rfl⟩)
  go_ret
  refine ⟨ret_int hr.out, ?_⟩
  obtain ⟨os, hos⟩ := hG.out
  exact ⟨1, os.push _, by rw [hos, alloc_eq_grow, grow_grow, Array.append_singleton]; rfl⟩
end Go.Proofs.Ytnhiepgfgnemkaa
