/- Contracts of DrawIsRoute and DrawRouteRects: the drawn path has at most 3003 points. Condition: at most 2^20 bytes of code. -/
import Derived.Test.YtiljojpnbpdaeaaDph
import Derived.Test.YtiljojpnbpdaeaaSps
namespace Go.Proofs.Ytiljojpnbpdaeaa
open Go.RowKit

set_option maxRecDepth 100000 in
set_option maxHeartbeats 4000000 in
theorem drawIsRoute_any (q : Option Addr) (n c : Nat) (l : List Int) (w : World) (h : SlT encU 1 w q n l) (hu : ∀ x ∈ l, 0 ≤ x ∧ x ≤ 255) (hn : n ≤ 1048576) :
    Calls Try.prog 47 #[.slice q n c] w fun e w' => ∃ (v : Value) (p : Option Addr) (d : Nat) (ps : List Q2), e = .returned (.tuple #[v, .slice p ps.length d]) ∧ ps.length ≤ 3003 ∧ SlT enc2 2 w' p ps.length ps ∧ Ext w w' := by
  go_enter Try.func47, Try.ntmps47
  go_wp2_with fail
  refine (from_any q n c l _ h hu hn).mono ?_
  rintro e w1 ⟨B, rfl, hB, S1, E1⟩
  go_wp2_with fail
  refine (drawBlockedZ_any B _ S1).mono ?_
  rintro e w2 ⟨qb, nb, cb, lb, rfl, sb, hnb, _, S2, M2, hz⟩
  replace hz := hid hz
  replace sb := hid sb
  have hB1 : B < w1.heap.size := S1.lt
  have E2 := hid (E1.then M2 (by intro k hk; simp at hk; omega))
  clear S1 M2 E1
  go_wp2_with fail
  refine (next_any B 2 _ S2 (by omega) (by omega)).mono ?_
  rintro e w3 ⟨r, rfl, r0, r1, S3, M3⟩
  have hqb := hid (show ∀ a, qb = some a → w1.heap.size ≤ a.block from by assumption)
  replace sb := hid (sb.out.mut M3 (fun a ha => by have := hqb.out a ha; simp; omega))
  have E3 := hid (E2.out.then M3 (by intro k hk; simp at hk; omega))
  clear S2 M3 E2
  by_cases hr : r = 0
  · subst hr
    go_wp2_with fail
    refine (drawUnit_any B _ S3).mono ?_
    rintro e w4 ⟨a, rfl, _, S4, M4⟩
    replace sb := hid (sb.out.mut M4 (fun a ha => by have := hqb.out a ha; simp; omega))
    have E4 := hid (E3.out.then M4 (by intro k hk; simp at hk; omega))
    clear S3 M4 E3
    go_wp2_with fail
    refine (drawUnit_any B _ S4).mono ?_
    rintro e w5 ⟨b, rfl, _, S5, M5⟩
    replace sb := hid (sb.out.mut M5 (fun a ha => by have := hqb.out a ha; simp; omega))
    have E5 := hid (E4.out.then M5 (by intro k hk; simp at hk; omega))
    clear S4 M5 E4 S5
    go_wp2_with fail
    refine (specShortestRoute_any qb nb cb lb a b _ sb.out (by omega)).mono ?_
    rintro e w6 ⟨p, d, rfl, o6, E6⟩
    go_wp2_with fail
    go_ret2
    exact ⟨_, p, d, srL lb a b, rfl, srL_short hz.out, SlT.of_owns enc2_len rfl o6, E5.out.trans E6⟩
  · have e0 : (r == 0) = false := by simpa using hr
    go_wp2_with fail
    refine (drawPath_any B _ S3).mono ?_
    rintro e w4 ⟨v, ps, rfl, hl, hP⟩
    obtain ⟨p, d, rfl⟩ := owns_forms hP.own
    go_wp2_with fail
    go_ret2
    exact ⟨_, p, d, ps, rfl, by omega, SlT.of_owns enc2_len rfl hP.own, E3.out.then hP.mt (by intro k hk; simp at hk; omega)⟩
set_option maxRecDepth 100000 in
set_option maxHeartbeats 1000000 in
theorem drawRouteRects_any (q : Option Addr) (n c : Nat) (l : List Int) (w : World) (h : SlT encU 1 w q n l) (hu : ∀ x ∈ l, 0 ≤ x ∧ x ≤ 255) (hn : n ≤ 1048576) :
    Calls Try.prog 20 #[.slice q n c] w fun e w' => ∃ (p : Option Addr) (d : Nat) (ps : List Q2), e = .returned (.slice p ps.length d) ∧ ps.length ≤ 3003 ∧ SlT enc2 2 w' p ps.length ps ∧ Ext w w' := by
  go_enter Try.func20, Try.ntmps20
  go_wp2_with fail
  refine (drawIsRoute_any q n c l _ h hu hn).mono ?_
  rintro e w1 ⟨v, p, d, ps, rfl, hl, hs, E⟩
  go_wp2_with fail
  go_ret
  exact ⟨p, d, ps, rfl, hl, hs, E⟩
end Go.Proofs.Ytiljojpnbpdaeaa
