/- The law FnFlood. No condition but that the code's length fits. -/
import Derived.Test.YthdilndfcdpeiaaDru
import Derived.Test.YthdilndfcdpeiaaRct
import Derived.Test.YthdilndfcdpeiaaOpv
namespace Go.Proofs.Ythdilndfcdpeiaa
open Go.RowKit

set_option maxRecDepth 100000 in
set_option maxHeartbeats 8000000 in
theorem fnFlood_any (q : Option Addr) (n c : Nat) (l : List Int) (w : World) (h : SlT encU 1 w q n l) (hu : ∀ x ∈ l, 0 ≤ x ∧ x ≤ 255) (_hm : n ≤ maxLen) :
    Calls Try.prog 8 #[.slice q n c] w fun e w' => e = .returned (.bool true) ∧ Ext w w' := by
  have hu := hid hu
  clear _hm
  by_cases hbig : 4096 < (n : Int)
  · have hbd : Hid (decide (4096 < (n : Int)) = true) := decide_eq_true hbig
    go_enter Try.func8, Try.ntmps8
    go_wp2_with fail
    refine (big_any q n c _).mono ?_
    rw [hbd.out]
    rintro e w' ⟨rfl, rfl⟩
    go_wp2_with fail
    go_ret
    exact ⟨rfl, Ext.refl _⟩
  · have hn : n ≤ 1048576 := by omega
    have hbd : Hid (decide (4096 < (n : Int)) = false) := decide_eq_false hbig
    go_enter Try.func8, Try.ntmps8
    go_wp2_with fail
    refine (big_any q n c _).mono ?_
    rw [hbd.out]
    rintro e w' ⟨rfl, rfl⟩
    clear hbig
    go_wp2_with fail
    refine (drawRouteDistance_any q n c l _ h hu.out hn).mono ?_
    rintro e w1 ⟨q1, n1, c1, l1, a, b, rfl, s1, hn1, _, _, _, E1⟩
    go_wp2_with fail
    generalize hW : (w1.alloc _).alloc _ = W0
    obtain ⟨E0, z0, bA, bB⟩ := boxes2 hW
    clear hW
    have gA := hid (show Blk W0 w1.heap.size [.int .i64 a.a, .int .i64 a.b] _ from bA)
    have gB := hid (show Blk W0 (w1.heap.size + 1) [.int .i64 b.a, .int .i64 b.b] _ from bB)
    clear bA bB
    replace z0 := hid z0
    replace s1 := hid (s1.ext E0)
    refine (FloodRegion_any q1 n1 c1 l1 a _ s1.out (by omega)).mono ?_
    rintro e w2 ⟨qr, cr, rfl, or, E2⟩
    have sr := hid (SlT.of_owns (l := frL l1 a) enc4_len rfl or)
    have hfl := frL_len l1 a
    clear or
    have a0 := (gA.out.ext E2).cells 0
    have a1 := (gA.out.ext E2).cells 1
    have b0 := (gB.out.ext E2).cells 0
    have b1 := (gB.out.ext E2).cells 1
    simp only [List.getElem?_cons_zero, List.getElem?_cons_succ] at a0 a1 b0 b1
    have hlA := (gA.out.ext E2).lt
    have hlB := (gB.out.ext E2).lt
    go_wp2_with fail
    refine (RouteDistance_any q1 n1 c1 l1 a b _ (s1.out.ext E2) (by omega)).mono ?_
    rintro e w3 ⟨rfl, E3⟩
    clear a0 a1 b0 b1 hlA hlB
    go_wp2_with fail
    refine (specIsRegion_any q1 n1 c1 l1 _ (s1.out.ext (E2.trans E3)) (by omega)).mono ?_
    have hEE := hid (E1.trans (E0.trans (E2.trans E3)))
    cases hr : isReg l1 with
    | false =>
      rintro e w4 ⟨rfl, E4⟩
      rw [frL_bad hr, rdL_bad hr]
      clear hr
      go_wp2_with fail
      go_ret
      exact ⟨rfl, hEE.out.trans E4⟩
    | true =>
      rintro e w4 ⟨rfl, E4⟩
      have hlaw := hid (flood_law (a := a) (b := b) hr)
      have b0 := (gB.out.ext (E2.trans (E3.trans E4))).cells 0
      have b1 := (gB.out.ext (E2.trans (E3.trans E4))).cells 1
      simp only [List.getElem?_cons_zero, List.getElem?_cons_succ] at b0 b1
      have hlB := (gB.out.ext (E2.trans (E3.trans E4))).lt
      obtain ⟨D, hD⟩ : ∃ D, D = rdL l1 a b := ⟨_, rfl⟩
      rw [← hD] at hlaw ⊢
      replace hD := hid hD
      clear hr
      go_wp2_with fail
      refine (RegionContains_any qr _ cr (frL l1 a) b.a b.b _ (sr.out.ext (E3.trans E4)) (by omega)).mono ?_
      rw [← hlaw.out]
      rintro e w5 ⟨rfl, E5⟩
      go_wp2_with fail
      go_ret
      exact ⟨ret_bool (by simp), hEE.out.trans (E4.trans E5)⟩
end Go.Proofs.Ythdilndfcdpeiaa
