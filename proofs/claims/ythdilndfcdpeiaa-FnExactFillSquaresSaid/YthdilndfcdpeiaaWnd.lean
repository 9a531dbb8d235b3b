/- Contracts of DensityWindows and the reference's l33Window. Condition: a side from 4 to 40. -/
import Derived.Test.YthdilndfcdpeiaaCov
namespace Go.Proofs.Ythdilndfcdpeiaa
open Go.RowKit

set_option maxRecDepth 100000 in
set_option maxHeartbeats 4000000 in
theorem DensityWindows_any (s : Int) (w : World) (hs : wit s 4 40 = true) :
    Calls Try.prog 69 #[.int .i64 s] w (RegB (winL s) w) := by
  obtain ⟨i0, hi, hz0, hz1, hz2⟩ := info_parts info_Rect
  have hcall := fun W => within_any s 4 40 W
  rw [hs] at hcall
  rw [wit_iff] at hs
  obtain ⟨s0, s1⟩ := hs
  have ho0 : (w.alloc (.cells #[] 66)).ownsRow w.heap.size 66 4 (.slice (some ⟨w.heap.size, 0, none⟩) 0 0) 0 [] := by
    have := World.ownsRow_made (base := w.heap.size) (e := 66) (size := 4) w #[] 0 (by simp) (by simp [maxLen]) (by simp)
    exact this
  have hwl := winL_len s0
  go_enter Try.func69, Try.ntmps69
  go_wp2_with fail
  refine (hcall _).mono ?_
  rintro e w1 ⟨rfl, rfl⟩
  clear hcall
  go_wp2_with fail
  go_loopw [3, 4] (fun v i wr => ∃ (y : Int) (out : List Q4) (q : Option Addr) (c : Nat), -40 ≤ y ∧ y ≤ 80 ∧ v = .slice q out.length c ∧ i = .int .i64 y ∧ Hid (winL s = out ++ winYs s y) ∧ wr.ownsRow w.heap.size 66 4 (.slice q out.length c) out.length (out.flatMap enc4) ∧ Ext w wr) (fun _ i _ => (80 - intOf i).toNat)
  case atStart => exact ⟨-40, [], _, _, by omega, by omega, rfl, rfl, rfl, ho0, (Ext.refl _).alloc _⟩
  case round =>
    clear ho0
    obtain ⟨y, out, q, c, hy0, hy1, rfl, rfl, hC, ho, hE⟩ := hrel
    by_cases hy : y < 40
    · have hC2 : Hid (winL s = out ++ (winXs s y (-40) ++ winYs s (y + s))) := by show _ = _; rw [hC.out, winYs_step (by omega) hy0 hy]
      clear hC
      replace ho := hid ho
      go_wp2_with fail
      go_loopw [3, 5] (fun v i wr => ∃ (x : Int) (out : List Q4) (q : Option Addr) (c : Nat), -40 ≤ x ∧ x ≤ 80 ∧ v = .slice q out.length c ∧ i = .int .i64 x ∧ Hid (winL s = out ++ (winXs s y x ++ winYs s (y + s))) ∧ wr.ownsRow w.heap.size 66 4 (.slice q out.length c) out.length (out.flatMap enc4) ∧ Ext w wr) (fun _ i _ => (80 - intOf i).toNat)
      case atStart => exact ⟨-40, out, q, c, by omega, by omega, rfl, rfl, hC2, ho.out, hE⟩
      case round =>
        clear ho hE hC2
        obtain ⟨x, out, q, c, hx0, hx1, rfl, rfl, hC, ho, hE⟩ := hrel
        have hlen : out.length ≤ 420 := by
          have := congrArg List.length hC.out
          rw [List.length_append] at this
          omega
        by_cases hx : x < 40
        · have hC2 : Hid (winL s = (out ++ [⟨x, y, min (x + s) 40, min (y + s) 40⟩]) ++ (winXs s y (x + s) ++ winYs s (y + s))) := by
            show _ = _
            rw [hC.out, winXs_step (by omega) hx0 hx]; simp
          clear hC
          obtain ⟨X1, hX1⟩ : ∃ X1, X1 = min (x + s) 40 := ⟨_, rfl⟩
          obtain ⟨Y1, hY1⟩ : ∃ Y1, Y1 = min (y + s) 40 := ⟨_, rfl⟩
          rw [← hX1, ← hY1] at hC2
          have hXc : (x + s ≤ 40 ∧ X1 = x + s) ∨ (40 < x + s ∧ X1 = 40) := by omega
          have hYc : (y + s ≤ 40 ∧ Y1 = y + s) ∨ (40 < y + s ∧ Y1 = 40) := by omega
          clear hX1 hY1
          have hNl := hE.le
          replace ho := hid ho
          rcases hXc with ⟨hX, rfl⟩ | ⟨hX, rfl⟩ <;> rcases hYc with ⟨hY, rfl⟩ | ⟨hY, rfl⟩
          all_goals
            go_wp2_with (at_builtin; refine wpList_append_own _ rfl _ _ 24 rfl w.heap.size 66 i0 (.agg #[.int .i64 0, .int .i64 0, .int .i64 0, .int .i64 0]) 4 32 Try.underlying24 hi hz0 hz1 hz2 rfl (by omega) _ _ _ rfl (ho.out.alloc _) ⟨_, 0, none⟩ 1 1 [.int .i64 x, .int .i64 y, .int .i64 _, .int .i64 _] rfl rfl (cells_new _ [_, _, _, _] _) (one_int4 _ _ _ _) (by unfold maxLen; omega) (by omega) (by simp; omega) ?_; intro v' w1 ho' hg' _; obtain ⟨qa, ca, rfl⟩ := owns_forms ho'; have hE1 := hid ((hE.alloc _).grown hg' (fun k hk => (ho.out.lt k hk).1)); replace ho' := hid ho'; clear hg')
            go_roundw
            case rel => exact ⟨x + s, _, qa, ca, by omega, by omega, by rw [List.length_append]; rfl, rfl, hC2, by rw [List.length_append, List.flatMap_append]; exact ho'.out, hE1.out⟩
            case measure => simp [intOf]; omega
        · have hC2 : Hid (winL s = out ++ winYs s (y + s)) := by show _ = _; rw [hC.out, winXs_stop (by omega), List.nil_append]
          clear hC
          replace ho := hid ho
          go_wp2_with fail
          go_roundw
          case rel => exact ⟨y + s, out, q, c, by omega, by omega, rfl, rfl, hC2, ho.out, hE⟩
          case measure => simp [intOf]; omega
    · have hC2 : Hid (out = winL s) := by show _ = _; rw [hC.out, winYs_stop (by omega), List.append_nil]
      clear hC
      go_wp2_with fail
      go_ret
      rw [← hC2.out]
      exact ⟨q, c, rfl, ho, hE⟩
/-- The window of side s at (x, y). -/
def winQ (x y s : Int) : Q4 := ⟨x, y, min (x + s) 40, min (y + s) 40⟩
theorem winQ_ok {x y s : Int} (hx : -40 ≤ x ∧ x < 40) (hy : -40 ≤ y ∧ y < 40) (hs : 1 ≤ s) : vR (winQ x y s) = true := by rw [vR_iff]; simp only [winQ]; omega
set_option maxRecDepth 100000 in
set_option maxHeartbeats 4000000 in
theorem l33Window_any (B c : Nat) (g : Grid) (x y s : Int) (w : World) (h : Bits w B g) (hx : -40 ≤ x ∧ x < 40) (hy : -40 ≤ y ∧ y < 40) (hs : 4 ≤ s ∧ s ≤ 40) :
    Calls Try.prog 65 #[.slice (some ⟨B, 0, none⟩) 6400 c, .int .i64 x, .int .i64 y, .int .i64 s] w
      fun e w' => e = .returned (.tuple #[.int .i64 (areaQ (winQ x y s)), .int .i64 (cntB (gh g) (winQ x y s))]) ∧ w = w' := by
  obtain ⟨x0, x1⟩ := hx
  obtain ⟨y0, y1⟩ := hy
  obtain ⟨s0, s1⟩ := hs
  obtain ⟨X1, hX1⟩ : ∃ X1, X1 = min (x + s) 40 := ⟨_, rfl⟩
  obtain ⟨Y1, hY1⟩ : ∃ Y1, Y1 = min (y + s) 40 := ⟨_, rfl⟩
  have hQ : winQ x y s = ⟨x, y, X1, Y1⟩ := by rw [hX1, hY1]; rfl
  have hXb : x < X1 ∧ X1 ≤ 40 ∧ X1 ≤ x + 40 := by omega
  have hYb : y < Y1 ∧ Y1 ≤ 40 ∧ Y1 ≤ y + 40 := by omega
  obtain ⟨X2, X3, X4⟩ := hXb
  obtain ⟨Y2, Y3, Y4⟩ := hYb
  have hrow : ∀ v u, 0 ≤ sumI (fun i => b2i (gh g i v)) x u ∧ sumI (fun i => b2i (gh g i v)) x u ≤ ((u - x).toNat : Int) := fun v u => by
    have := sumI_bd (m := 1) (f := fun i => b2i (gh g i v)) (by omega) (fun i => b2i_bd _) _ x u rfl
    omega
  have hcol : ∀ v, 0 ≤ sumI (fun j => sumI (fun i => b2i (gh g i j)) x X1) y v ∧ sumI (fun j => sumI (fun i => b2i (gh g i j)) x X1) y v ≤ 80 * ((v - y).toNat : Int) := fun v =>
    sumI_bd (m := 80) (by omega) (fun j => by have := hrow j X1; omega) _ y v rfl
  rw [hQ]
  replace hQ := hid hQ
  replace hX1 := hid hX1
  replace hY1 := hid hY1
  replace h := hid h
  replace hrow := hid hrow
  replace hcol := hid hcol
  go_enter Try.func65, Try.ntmps65
  go_wp2_with fail
  go_loop [10, 11, 12] (fun a b i => ∃ v : Int, y ≤ v ∧ v ≤ Y1 ∧ i = .int .i64 v ∧ a = .int .i64 ((v - y) * (X1 - x)) ∧ b = .int .i64 (sumI (fun j => sumI (fun i => b2i (gh g i j)) x X1) y v)) (fun _ _ i => (100 - intOf i).toNat)
  case atStart => exact ⟨y, by omega, by omega, rfl, by rw [Int.sub_self, Int.zero_mul], by rw [sumI_nil (by omega)]⟩
  case round =>
    obtain ⟨v, hv0, hv1, rfl, rfl, rfl⟩ := hrel
    have hb1 := hcol.out v
    obtain ⟨S, hS⟩ : ∃ S, S = sumI (fun j => sumI (fun i => b2i (gh g i j)) x X1) y v := ⟨_, rfl⟩
    obtain ⟨M, hM⟩ : ∃ M, M = (v - y) * (X1 - x) := ⟨_, rfl⟩
    have hMb : 0 ≤ M ∧ M ≤ 6400 := by
      rw [hM]
      refine ⟨Int.mul_nonneg (by omega) (by omega), ?_⟩
      have h1 := Int.mul_le_mul_of_nonneg_right (show v - y ≤ 80 by omega) (show 0 ≤ X1 - x by omega)
      omega
    obtain ⟨M0, M1⟩ := hMb
    rw [← hS] at hb1 ⊢
    rw [← hM]
    replace hS := hid hS
    replace hM := hid hM
    by_cases hvY : v < Y1
    · have hvs : v < y + s := by have := hY1.out; omega
      have hv40 : v < 40 := by omega
      go_wp2_with fail
      go_loop [10, 11, 13] (fun a b i => ∃ u : Int, x ≤ u ∧ u ≤ X1 ∧ i = .int .i64 u ∧ a = .int .i64 (M + (u - x)) ∧ b = .int .i64 (S + sumI (fun i => b2i (gh g i v)) x u)) (fun _ _ i => (100 - intOf i).toNat)
      case atStart => exact ⟨x, by omega, by omega, rfl, by rw [Int.sub_self, Int.add_zero], by rw [sumI_nil (by omega), Int.add_zero]⟩
      case round =>
        obtain ⟨u, hu0, hu1, rfl, rfl, rfl⟩ := hrel
        have hb2 := hrow.out v u
        have hsn := sumI_to (fun i => b2i (gh g i v)) hu0
        obtain ⟨T, hT⟩ : ∃ T, T = sumI (fun i => b2i (gh g i v)) x u := ⟨_, rfl⟩
        rw [← hT] at hb2 hsn ⊢
        replace hT := hid hT
        by_cases huX : u < X1
        · have hus : u < x + s := by have := hX1.out; omega
          have hu40 : u < 40 := by omega
          have hc : onC u v = true := by rw [onC_iff]; omega
          have hat := atG_lt hc
          have hatI : (atG u v : Int) < 6400 := by omega
          have e0 := h.out.2 _ hat
          have hgh := gh_on (g := g) hc
          cases hg : g (atG u v) with
          | true =>
            rw [hg] at e0 hgh
            have hsn2 : Hid (sumI (fun i => b2i (gh g i v)) x (u + 1) = T + 1) := by show _ = _; rw [hsn]; simp only [hgh]; rfl
            clear hg hgh hsn
            replace hc := hid hc
            go_wp2_with (go_at_call 89; refine (l03At_any _ _ _ hc.out).mono ?_; rintro e w' ⟨rfl, rfl⟩)
            go_round
            case rel => exact ⟨u + 1, by omega, by omega, rfl, by rw [show M + (u + 1 - x) = M + (u - x) + 1 by omega], by rw [hsn2.out, Int.add_assoc]⟩
            case measure => simp [intOf]; omega
          | false =>
            rw [hg] at e0 hgh
            have hsn2 : Hid (sumI (fun i => b2i (gh g i v)) x (u + 1) = T) := by show _ = _; rw [hsn]; simp only [hgh]; simp [b2i]
            clear hg hgh hsn
            replace hc := hid hc
            go_wp2_with (go_at_call 89; refine (l03At_any _ _ _ hc.out).mono ?_; rintro e w' ⟨rfl, rfl⟩)
            go_round
            case rel => exact ⟨u + 1, by omega, by omega, rfl, by rw [show M + (u + 1 - x) = M + (u - x) + 1 by omega], by rw [hsn2.out]⟩
            case measure => simp [intOf]; omega
        · have hsn2 : Hid (sumI (fun j => sumI (fun i => b2i (gh g i j)) x X1) y (v + 1) = S + T) := by
            show _ = _
            rw [sumI_to _ hv0, hS.out, hT.out, show u = X1 by omega]
          have hM2 : Hid ((v + 1 - y) * (X1 - x) = M + (u - x)) := by
            show _ = _
            rw [show v + 1 - y = (v - y) + 1 by omega, Int.add_mul, ← hM.out, show u = X1 by omega]; omega
          clear hsn
          by_cases hus : u < x + s
          · have hu40 : decide (u < 40) = false := by have := hX1.out; simp; omega
            go_wp2_with fail
            go_round
            case rel => exact ⟨v + 1, by omega, by omega, rfl, by rw [hM2.out], by rw [hsn2.out]⟩
            case measure => simp [intOf]; omega
          · have hus2 : decide (u < x + s) = false := by simp; omega
            go_wp2_with fail
            go_round
            case rel => exact ⟨v + 1, by omega, by omega, rfl, by rw [hM2.out], by rw [hsn2.out]⟩
            case measure => simp [intOf]; omega
    · have hSf : Hid (S = cntB (gh g) ⟨x, y, X1, Y1⟩) := by show _ = _; rw [hS.out, cntB, show v = Y1 by omega]
      have hMf : Hid (M = areaQ ⟨x, y, X1, Y1⟩) := by show _ = _; rw [hM.out, areaQ, show v = Y1 by omega, Int.mul_comm]
      by_cases hvs : v < y + s
      · have hv40 : decide (v < 40) = false := by have := hY1.out; simp; omega
        go_wp2_with fail
        go_ret2
        exact ⟨by rw [← hSf.out, ← hMf.out]; rfl, rfl⟩
      · have hvs2 : decide (v < y + s) = false := by simp; omega
        go_wp2_with fail
        go_ret2
        exact ⟨by rw [← hSf.out, ← hMf.out]; rfl, rfl⟩
end Go.Proofs.Ythdilndfcdpeiaa
