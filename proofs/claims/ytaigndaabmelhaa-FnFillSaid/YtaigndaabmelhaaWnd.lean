/- Contracts of DensityWindows and the reference's l33Window. Condition: a side from 4 to 40. -/
import Derived.Test.YtaigndaabmelhaaCov
namespace Go.Proofs.Ytaigndaabmelhaa
open Go.RowKit

set_option maxRecDepth 100000 in
set_option maxHeartbeats 4000000 in
theorem DensityWindows_any (s : Int) (w : World) (hs : wit s 4 40 = true) :
    Calls Try.prog 95 #[.int .i64 s] w (RegB (winL s) w) := by
  obtain ⟨i0, hi, hz0, hz1, hz2⟩ := info_parts info_Rect
  have hcall := fun W => within_any s 4 40 W
  rw [hs] at hcall
  rw [wit_iff] at hs
  obtain ⟨s0, s1⟩ := hs
  have ho0 : (w.alloc (.cells #[] 50)).ownsRow w.heap.size 50 4 (.slice (some ⟨w.heap.size, 0, none⟩) 0 0) 0 [] := by
    have := World.ownsRow_made (base := w.heap.size) (e := 50) (size := 4) w #[] 0 (by simp) (by simp [maxLen]) (by simp)
    exact this
  have hwl := winL_len s0
  go_enter Try.func95, Try.ntmps95
  go_wp2_with fail
  refine (hcall _).mono ?_
  rintro e w1 ⟨rfl, rfl⟩
  clear hcall
  go_wp2_with fail
  go_loopw [3, 4] (fun v i wr => ∃ (y : Int) (out : List Q4) (q : Option Addr) (c : Nat), -40 ≤ y ∧ y ≤ 80 ∧ v = .slice q out.length c ∧ i = .int .i64 y ∧ Hid (winL s = out ++ winYs s y) ∧ wr.ownsRow w.heap.size 50 4 (.slice q out.length c) out.length (out.flatMap enc4) ∧ Ext w wr) (fun _ i _ => (80 - intOf i).toNat)
  case atStart => exact ⟨-40, [], _, _, by omega, by omega, rfl, rfl, rfl, ho0, (Ext.refl _).alloc _⟩
  case round =>
    clear ho0
    obtain ⟨y, out, q, c, hy0, hy1, rfl, rfl, hC, ho, hE⟩ := hrel
    by_cases hy : y < 40
    · have hC2 : Hid (winL s = out ++ (winXs s y (-40) ++ winYs s (y + s))) := by show _ = _; rw [hC.out, winYs_step (by omega) hy0 hy]
      clear hC
      replace ho := hid ho
      go_wp2_with fail
      go_loopw [3, 5] (fun v i wr => ∃ (x : Int) (out : List Q4) (q : Option Addr) (c : Nat), -40 ≤ x ∧ x ≤ 80 ∧ v = .slice q out.length c ∧ i = .int .i64 x ∧ Hid (winL s = out ++ (winXs s y x ++ winYs s (y + s))) ∧ wr.ownsRow w.heap.size 50 4 (.slice q out.length c) out.length (out.flatMap enc4) ∧ Ext w wr) (fun _ i _ => (80 - intOf i).toNat)
      case atStart => exact ⟨-40, out, q, c, by omega, by omega, rfl, rfl, hC2, ho.out, hE⟩
      case round =>
        clear ho hE hC2
        obtain ⟨x, out, q, c, hx0, hx1, rfl, rfl, hC, ho, hE⟩ := hrel
        have hlen : out.length ≤ 420 := by
          have := congrArg List.length hC.out
          rw [List.length_append] at this
          omega
        by_cases hx : x < 40
        · have hC2 : Hid (winL s = (out ++ [⟨x, y, min (x + s) 40, min (y + s) 40⟩]) ++ (winXs s y (x + s) ++ winYs s (y + s))) := by
            show _ = _
            rw [hC.out, winXs_step (by omega) hx0 hx]; simp
          clear hC
          obtain ⟨X1, hX1⟩ : ∃ X1, X1 = min (x + s) 40 := ⟨_, rfl⟩
          obtain ⟨Y1, hY1⟩ : ∃ Y1, Y1 = min (y + s) 40 := ⟨_, rfl⟩
          rw [← hX1, ← hY1] at hC2
          have hXc : (x + s ≤ 40 ∧ X1 = x + s) ∨ (40 < x + s ∧ X1 = 40) := by omega
          have hYc : (y + s ≤ 40 ∧ Y1 = y + s) ∨ (40 < y + s ∧ Y1 = 40) := by omega
          clear hX1 hY1
          have hNl := hE.le
          replace ho := hid ho
          rcases hXc with ⟨hX, rfl⟩ | ⟨hX, rfl⟩ <;> rcases hYc with ⟨hY, rfl⟩ | ⟨hY, rfl⟩
          all_goals
            go_wp2_with (at_builtin; refine wpList_append_own _ rfl _ _ 27 rfl w.heap.size 50 i0 (.agg #[.int .i64 0, .int .i64 0, .int .i64 0, .int .i64 0]) 4 32 Try.underlying27 hi hz0 hz1 hz2 rfl (by omega) _ _ _ rfl (ho.out.alloc _) ⟨_, 0, none⟩ 1 1 [.int .i64 x, .int .i64 y, .int .i64 _, .int .i64 _] rfl rfl (cells_new _ [_, _, _, _] _) (one_int4 _ _ _ _) (by unfold maxLen; omega) (by omega) (by simp; omega) ?_; intro v' w1 ho' hg' _; obtain ⟨qa, ca, rfl⟩ := owns_forms ho'; have hE1 := hid ((hE.alloc _).grown hg' (fun k hk => (ho.out.lt k hk).1)); replace ho' := hid ho'; clear hg')
            go_roundw
            case rel => exact ⟨x + s, _, qa, ca, by omega, by omega, by rw [List.length_append]; rfl, rfl, hC2, by rw [List.length_append, List.flatMap_append]; exact ho'.out, hE1.out⟩
            case measure => simp [intOf]; omega
        · have hC2 : Hid (winL s = out ++ winYs s (y + s)) := by show _ = _; rw [hC.out, winXs_stop (by omega), List.nil_append]
          clear hC
          replace ho := hid ho
          go_wp2_with fail
          go_roundw
          case rel => exact ⟨y + s, out, q, c, by omega, by omega, rfl, rfl, hC2, ho.out, hE⟩
          case measure => simp [intOf]; omega
    · have hC2 : Hid (out = winL s) := by show _ = _; rw [hC.out, winYs_stop (by omega), List.append_nil]
      clear hC
      go_wp2_with fail
      go_ret
      rw [← hC2.out]
      exact ⟨q, c, rfl, ho, hE⟩
/-- The window of side s at (x, y). -/
def winQ (x y s : Int) : Q4 := ⟨x, y, min (x + s) 40, min (y + s) 40⟩
theorem winQ_ok {x y s : Int} (hx : -40 ≤ x ∧ x < 40) (hy : -40 ≤ y ∧ y < 40) (hs : 1 ≤ s) : vR (winQ x y s) = true := by rw [vR_iff]; simp only [winQ]; omega
end Go.Proofs.Ytaigndaabmelhaa
