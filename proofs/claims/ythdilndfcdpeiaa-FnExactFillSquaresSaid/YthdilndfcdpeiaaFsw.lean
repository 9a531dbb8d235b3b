/- The law FnExactFillSquares over the contracts of both sides. Condition: at most 2^20 rectangles. -/
import Derived.Test.YthdilndfcdpeiaaFss
import Derived.Test.YthdilndfcdpeiaaIsd
namespace Go.Proofs.Ythdilndfcdpeiaa
open Go.RowKit

set_option maxRecDepth 100000 in
set_option maxHeartbeats 4000000 in
theorem lawFillSquares (q0 : Option Addr) (n0 c0 : Nat) (l0 : List Q4) (a1 : Int) (a2 : Int) (a3 : Int) (a4 : Int) (R0 : List Q4) (N0 : Nat) (s1 : Int) (w : World) (h0 : SlT enc4 4 w q0 n0 l0) (m0 : n0 ≤ maxLen) (hR0 : R0.length = N0) (hN0 : N0 ≤ 1048576)
    (hS : Hid (n0 ≤ 1048576 → ∀ (W : World) (q0 : Option Addr) (c0 : Nat), SlT enc4 4 W q0 n0 l0 → Calls Try.prog 49 #[.slice q0 n0 c0, .int .i64 a1, .int .i64 a2, .int .i64 a3, .int .i64 a4] W fun e w' => ∃ p0 d0, e = .returned (.tuple #[.slice p0 N0 d0, .int .i64 s1]) ∧ w'.ownsRow W.heap.size 66 4 (.slice p0 N0 d0) N0 (R0.flatMap enc4) ∧ Ext W w'))
    (hI : Hid (n0 ≤ 1048576 → ∀ (W : World) (q0 : Option Addr) (c0 : Nat), SlT enc4 4 W q0 n0 l0 → Calls Try.prog 26 #[.slice q0 n0 c0, .int .i64 a1, .int .i64 a2, .int .i64 a3, .int .i64 a4] W fun e w' => ∃ p0 d0, e = .returned (.tuple #[.slice p0 N0 d0, .int .i64 s1]) ∧ w'.ownsRow W.heap.size 66 4 (.slice p0 N0 d0) N0 (R0.flatMap enc4) ∧ Ext W w')) :
    Calls Try.prog 12 #[.slice q0 n0 c0, .int .i64 a1, .int .i64 a2, .int .i64 a3, .int .i64 a4] w fun e w' => e = .returned (.bool true) ∧ Ext w w' := by
  have e0 := hid h0.length
  unfold maxLen at m0
  replace hR0 := hid hR0
  by_cases x0 : 1048576 < (n0 : Int)
  · go_enter Try.func12, Try.ntmps12
    go_wp2_with fail
    refine (szRectS_any q0 n0 c0 _ _ (by omega) (by omega) (by omega)).mono ?_
    rintro e w' ⟨rfl, rfl⟩
    rw [if_pos (by omega)]
    go_wp2_with fail
    go_ret
    exact ⟨rfl, Ext.refl _⟩
  go_enter Try.func12, Try.ntmps12
  go_wp2_with fail
  refine (szRectS_any q0 n0 c0 _ _ (by omega) (by omega) (by omega)).mono ?_
  rintro e w' ⟨rfl, rfl⟩
  rw [if_neg (by omega)]
  have y0 := x0
  replace x0 : n0 ≤ 1048576 := by omega
  clear y0
  have F := Ext.refl w
  go_wp2_with fail
  refine (toRectS_any _ n0 _ l0 _ (h0.ext F) (by omega)).mono ?_
  rintro e w1 ⟨t0, rfl, ot0, E⟩
  replace F := F.trans E
  clear E
  go_wp2_with fail
  refine (hS.out x0 _ _ _ (SlT.of_owns enc4_len e0.out ot0)).mono ?_
  rintro e w2 ⟨u0, v0, rfl, os0, E⟩
  replace F := F.trans E
  clear E ot0
  have ss0 := SlT.of_owns (l := R0) enc4_len hR0.out os0
  clear os0
  have F0 := F
  have S := Ext.refl w2
  go_wp2_with fail
  refine (toRectS_any _ n0 _ l0 _ (h0.ext F) (by omega)).mono ?_
  rintro e w3 ⟨x0q, rfl, ox0, E⟩
  replace F := F.trans E
  replace S := S.trans E
  have zx0 := E.le
  clear E
  go_wp2_with fail
  refine (hI.out x0 _ _ _ (SlT.of_owns enc4_len e0.out ox0)).mono ?_
  rintro e w4 ⟨g0, k0, rfl, og0, E⟩
  have zI := E.le
  have zo0 := owns_ge ox0
  replace F := F.trans E
  replace S := S.trans E
  replace ox0 := owns_ext ox0 E
  clear E
  have zg0 := owns_ge og0
  go_wp2_with fail
  refine (eqRectS_same _ _ _ _ _ R0 _ (SlT.of_owns (l := R0) enc4_len hR0.out og0) (ss0.ext S) (by omega)).mono ?_
  rintro e w5 ⟨rfl, E⟩
  replace F := F.trans E
  replace S := S.trans E
  replace ox0 := owns_ext ox0 E
  replace og0 := owns_ext og0 E
  clear E
  go_wp2_with fail
  refine (toRectS_any _ n0 _ l0 _ (h0.ext F) (by omega)).mono ?_
  rintro e w6 ⟨y0q, rfl, oy0, E⟩
  replace F := F.trans E
  replace S := S.trans E
  replace ox0 := owns_ext ox0 E
  replace og0 := owns_ext og0 E
  clear E
  go_wp2_with fail
  refine (eqRectS_same _ _ _ _ _ l0 _ (SlT.of_owns enc4_len e0.out ox0) (SlT.of_owns enc4_len e0.out oy0) (by omega)).mono ?_
  rintro e w7 ⟨rfl, E⟩
  replace F := F.trans E
  replace S := S.trans E
  replace ox0 := owns_ext ox0 E
  replace og0 := owns_ext og0 E
  clear E oy0
  go_wp2_with fail
  refine (markRectS_any x0q n0 n0 _ _ _ _ _ ox0 (by omega) (by omega) (by omega)).mono ?_
  rintro e w8 ⟨rfl, ox0m, M⟩
  clear ox0 ox0m
  have S2 := S.then M (fun k hk => by have := (zo0 k hk).1; omega)
  replace F := F0.trans S2
  replace og0 := M.grownBy (fun g hg hh => by have h5 := (og0.lt g hg).1; have h6 := (zo0 g hh).2; omega) og0
  replace S := S2
  clear S2 M
  have hkp : ¬ ((1 : Int) + n0 * 4 < 0) := by omega
  go_wp2_with fail
  refine (eqRectS_same _ _ _ _ _ R0 _ (SlT.of_owns (l := R0) enc4_len hR0.out og0) (ss0.ext S) (by omega)).mono ?_
  rintro e w9 ⟨rfl, E⟩
  replace F := F.trans E
  replace S := S.trans E
  replace og0 := owns_ext og0 E
  clear E
  go_wp2_with fail
  refine (markRectS_any g0 N0 k0 _ _ _ _ _ og0 (by omega) (by omega) (by omega)).mono ?_
  rintro e w10 ⟨rfl, om0, M⟩
  have S2 := S.then M (fun k hk => by have := (zg0 k hk).1; omega)
  replace F := F0.trans S2
  replace S := S2
  clear S2 M
  have hq0 : ¬ ((1 : Int) + (N0 : Int) * 4 < 0) := by omega
  go_wp2_with fail
  refine (heldRectS_any g0 N0 k0 _ _ _ _ om0 (by omega) (by omega) (by omega)).mono ?_
  rintro e w' ⟨rfl, rfl⟩
  go_wp2_with fail
  refine (toRectS_any _ n0 _ l0 _ (h0.ext F) (by omega)).mono ?_
  rintro e w11 ⟨r0, rfl, or0, E⟩
  replace F := F.trans E
  replace S := S.trans E
  replace om0 := owns_ext om0 E
  clear E
  go_wp2_with fail
  refine (hI.out x0 _ _ _ (SlT.of_owns enc4_len e0.out or0)).mono ?_
  rintro e w12 ⟨b0, j0, rfl, oh0, E⟩
  replace F := F.trans E
  replace S := S.trans E
  replace om0 := owns_ext om0 E
  clear E or0
  go_wp2_with fail
  refine (eqRectS_same _ _ _ _ _ R0 _ (SlT.of_owns (l := R0) enc4_len hR0.out oh0) (ss0.ext S) (by omega)).mono ?_
  rintro e w13 ⟨rfl, E⟩
  replace F := F.trans E
  replace S := S.trans E
  replace om0 := owns_ext om0 E
  replace oh0 := owns_ext oh0 E
  clear E
  go_wp2_with fail
  refine (heldRectS_any g0 N0 k0 _ _ _ _ om0 (by omega) (by omega) (by omega)).mono ?_
  rintro e w' ⟨rfl, rfl⟩
  go_wp2_with fail
  go_ret
  exact ⟨rfl, F⟩
theorem exactFillSquares_any (q : Option Addr) (n c : Nat) (l : List Q4) (s p sz gap : Int) (w : World) (h : SlT enc4 4 w q n l) (hm : n ≤ maxLen) :
    Calls Try.prog 12 #[.slice q n c, .int .i64 s, .int .i64 p, .int .i64 sz, .int .i64 gap] w fun e w' => e = .returned (.bool true) ∧ Ext w w' :=
  lawFillSquares q n c l s p sz gap (fsL l s p sz gap) (fsL l s p sz gap).length (fsC l s p sz gap) w h hm rfl (Nat.le_trans (fsL_len l s p sz gap) (by omega)) (hid fun hn W q c hW => specFillSquares_any q n c l s p sz gap W hW hn) (hid fun hn W q c hW => FillSquares_any q n c l s p sz gap W hW hn)
end Go.Proofs.Ythdilndfcdpeiaa
