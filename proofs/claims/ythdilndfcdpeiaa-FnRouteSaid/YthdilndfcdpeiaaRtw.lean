/- The law FnRoute. No condition but that the code's length fits. -/
import Derived.Test.YthdilndfcdpeiaaPth
import Derived.Test.YthdilndfcdpeiaaDru
import Derived.Test.YthdilndfcdpeiaaOpv
import Derived.Test.YthdilndfcdpeiaaIdx
import Derived.RegionTactic
namespace Go.Proofs.Ythdilndfcdpeiaa
open Go.RowKit

set_option maxRecDepth 100000 in
set_option maxHeartbeats 8000000 in
theorem drawShortestRoute_any (q : Option Addr) (n c : Nat) (l : List Int) (w : World) (h : SlT encU 1 w q n l) (hu : ∀ x ∈ l, 0 ≤ x ∧ x ≤ 255) (hn : n ≤ 1048576) :
    Calls Try.prog 16 #[.slice q n c] w (DrwR w) := by
  obtain ⟨T, hT⟩ : ∃ T, T = w.heap.size := ⟨_, rfl⟩
  obtain ⟨U, hU⟩ : ∃ U, U = w.heap.size + 1 := ⟨_, rfl⟩
  go_enter Try.func16, Try.ntmps16
  go_wp2_with fail
  generalize hW : (w.alloc _).alloc _ = W0
  obtain ⟨E0, z0, bT, bU⟩ := boxes2 hW
  clear hW
  rw [← hU] at bU ⊢
  rw [← hT] at bT ⊢
  have hP : Hid (Blk W0 T [.int .i64 0, .int .i64 0] 26) := bT
  have hQ : Hid (Blk W0 U [.int .i64 0, .int .i64 0] 26) := bU
  have hTU : T < U := by omega
  have hTw : w.heap.size ≤ T := by omega
  have hUw : w.heap.size ≤ U := by omega
  clear bT bU
  replace z0 := hid z0
  replace hT := hid hT
  replace hU := hid hU
  refine (drawRouteDistance_any q n c l _ (h.ext E0) hu hn).mono ?_
  rintro e w1 ⟨q2, n2, c2, l2, p1, p2, rfl, s2, hn2, hq2, hp1, hp2, E1⟩
  have hP5 := hid (hP.out.ext E1)
  have hQ5 := hid (hQ.out.ext E1)
  have t0 := hP5.out.cells 0
  have t1 := hP5.out.cells 1
  have u0 := hQ5.out.cells 0
  have u1 := hQ5.out.cells 1
  simp only [List.getElem?_cons_zero, List.getElem?_cons_succ] at t0 t1 u0 u1
  have tf := hP5.out.free
  have uf := hQ5.out.free
  have hTl := hP5.out.lt
  have hUl := hQ5.out.lt
  have hUW : U < W0.heap.size := hQ.out.lt
  have hBq : Hid (∀ a, q2 = some a → U < a.block) := fun a ha => Nat.lt_of_lt_of_le hUW (hq2 a ha)
  have s5 := hid (((s2.other (B := T) 0 (.int .i64 p1.a) (fun a ha => by have := hBq.out a ha; omega)).other (B := T) 1 (.int .i64 p1.b) (fun a ha => by have := hBq.out a ha; omega)).other (B := U) 0 (.int .i64 p2.a) (fun a ha => by have := hBq.out a ha; omega) |>.other (B := U) 1 (.int .i64 p2.b) (fun a ha => by have := hBq.out a ha; omega))
  have E5 := hid ((((E0.trans E1).setCell (p := ⟨T, 0, none⟩) hTw (.int .i64 p1.a)).setCell (p := ⟨T, 1, none⟩) hTw (.int .i64 p1.b)).setCell (p := ⟨U, 0, none⟩) hUw (.int .i64 p2.a) |>.setCell (p := ⟨U, 1, none⟩) hUw (.int .i64 p2.b))
  clear hP hQ hP5 hQ5 s2 hq2 E0 E1
  go_wp2_with fail
  refine bodyPost_ret (v := .tuple #[.slice q2 n2 c2, .agg #[.int .i64 p1.a, .int .i64 p1.b], .agg #[.int .i64 p2.a, .int .i64 p2.b]]) (by simp [results, Try.results16, go_sem, t0, t1, u0, u1]) rfl ⟨q2, n2, c2, l2, p1, p2, rfl, s5.out, hn2, fun a ha => by have := hBq.out a ha; omega, hp1, hp2, E5.out⟩
set_option maxRecDepth 100000 in
set_option maxHeartbeats 8000000 in
theorem fnRoute_any (q : Option Addr) (n c : Nat) (l : List Int) (w : World) (h : SlT encU 1 w q n l) (hu : ∀ x ∈ l, 0 ≤ x ∧ x ≤ 255) (_hm : n ≤ maxLen) :
    Calls Try.prog 3 #[.slice q n c] w fun e w' => e = .returned (.bool true) ∧ Ext w w' := by
  have hu := hid hu
  clear _hm
  by_cases hbig : 4096 < (n : Int)
  · have hbd : Hid (decide (4096 < (n : Int)) = true) := decide_eq_true hbig
    go_enter Try.func3, Try.ntmps3
    go_wp2_with fail
    refine (big_any q n c _).mono ?_
    rw [hbd.out]
    rintro e w' ⟨rfl, rfl⟩
    go_wp2_with fail
    go_ret
    exact ⟨rfl, Ext.refl _⟩
  · have hn : n ≤ 1048576 := by omega
    have hbd : Hid (decide (4096 < (n : Int)) = false) := decide_eq_false hbig
    go_enter Try.func3, Try.ntmps3
    go_wp2_with fail
    refine (big_any q n c _).mono ?_
    rw [hbd.out]
    rintro e w' ⟨rfl, rfl⟩
    clear hbig
    go_wp2_with fail
    refine (drawShortestRoute_any q n c l _ h hu.out hn).mono ?_
    rintro e w1 ⟨q1, n1, c1, l1, a, b, rfl, s1, hn1, _, _, _, E1⟩
    go_wp2_with fail
    generalize hW : (w1.alloc _).alloc _ = W0
    obtain ⟨E0, z0, bA, bB⟩ := boxes2 hW
    clear hW
    have gA := hid (show Blk W0 w1.heap.size [.int .i64 a.a, .int .i64 a.b] _ from bA)
    have gB := hid (show Blk W0 (w1.heap.size + 1) [.int .i64 b.a, .int .i64 b.b] _ from bB)
    clear bA bB
    replace z0 := hid z0
    replace s1 := hid (s1.ext E0)
    refine (ShortestRoute_any q1 n1 c1 l1 a b _ s1.out (by omega)).mono ?_
    obtain ⟨C, hC⟩ : ∃ C, C = srC l1 a b := ⟨_, rfl⟩
    rintro e w2 ⟨qr, cr, rfl, or, E2⟩
    have sr := hid (SlT.of_owns (l := srL l1 a b) enc2_len rfl or)
    have hfl := srL_len l1 a b
    clear or
    have a0 := (gA.out.ext E2).cells 0
    have a1 := (gA.out.ext E2).cells 1
    have b0 := (gB.out.ext E2).cells 0
    have b1 := (gB.out.ext E2).cells 1
    simp only [List.getElem?_cons_zero, List.getElem?_cons_succ] at a0 a1 b0 b1
    have hlA := (gA.out.ext E2).lt
    have hlB := (gB.out.ext E2).lt
    go_wp2_with fail
    refine (RouteDistance_any q1 n1 c1 l1 a b _ (s1.out.ext E2) (by omega)).mono ?_
    rintro e w3 ⟨rfl, E3⟩
    clear a0 a1 b0 b1 hlA hlB
    have hEE := hid (E1.trans (E0.trans (E2.trans E3)))
    by_cases hc : srC l1 a b = 0
    · obtain ⟨e0, e1, e2, e3⟩ := path_ends hc
      have hrt := hid (path_isRt hc)
      have hsym := hid (rdL_sym hc)
      rw [hc]
      clear hc hC
      obtain ⟨D, hD⟩ : ∃ D, D = rdL l1 a b := ⟨_, rfl⟩
      rw [← hD] at e2 hsym ⊢
      replace hD := hid hD
      obtain ⟨L, hL⟩ : ∃ L, L = srL l1 a b := ⟨_, rfl⟩
      rw [← hL] at e0 e1 e2 e3 hrt sr hfl ⊢
      replace hL := hid hL
      have e0 := hid e0
      have e1 := hid e1
      obtain ⟨bp, op, x, rfl, hbp, hx, c0, c1'⟩ := sr.out.two e3
      obtain ⟨bp', op', y, hq', _, hy, d0, d1⟩ := sr.out.two (k := L.length - 1) (by omega)
      cases hq'
      obtain rfl : a = x := Option.some.inj (e0.out.symm.trans hx.out)
      obtain rfl : b = y := Option.some.inj (e1.out.symm.trans hy.out)
      simp only [Nat.zero_mul, Nat.add_zero] at c0 c1'
      replace c0 := (E3.cells _ _ hbp).trans c0
      replace c1' := (E3.cells _ _ hbp).trans c1'
      replace d0 := (E3.cells _ _ hbp).trans d0
      replace d1 := (E3.cells _ _ hbp).trans d1
      have hbp3 : bp < w3.heap.size := Nat.lt_of_lt_of_le hbp E3.le
      have a0 := (gA.out.ext (E2.trans E3)).cells 0
      have a1 := (gA.out.ext (E2.trans E3)).cells 1
      have b0 := (gB.out.ext (E2.trans E3)).cells 0
      have b1 := (gB.out.ext (E2.trans E3)).cells 1
      simp only [List.getElem?_cons_zero, List.getElem?_cons_succ] at a0 a1 b0 b1
      have hlA := (gA.out.ext (E2.trans E3)).lt
      have hlB := (gB.out.ext (E2.trans E3)).lt
      have hwL : IntKind.i64.wrap ((L.length : Int) - 1) = ((L.length - 1 : Nat) : Int) := by rw [show (L.length : Int) - 1 = ((L.length - 1 : Nat) : Int) by omega]; exact IntWalk.i64_in _ (by omega)
      have hLD : ((L.length - 1 : Nat) : Int) = D := by omega
      have hLb : ((((L.length - 1 : Nat) : Int)) == D) = true := by simpa using hLD
      have hLp : (0 : Int) < (L.length : Int) := by omega
      have hLq : L.length - 1 < L.length := by omega
      have hLi : ((L.length - 1 : Nat) : Int) < (L.length : Int) := by omega
      replace hLD := hid hLD
      have hcI := fun W (hW : Ext w3 W) => IsRoute_any q1 n1 c1 l1 (some ⟨bp, op, none⟩) L.length cr L W ((s1.out.ext (E2.trans E3)).ext hW) ((sr.out.ext E3).ext hW) (by omega) (by omega)
      rw [hrt.out] at hcI
      have hcR := fun W (hW : Ext w3 W) => RouteDistance_any q1 n1 c1 l1 b a W ((s1.out.ext (E2.trans E3)).ext hW) (by omega)
      rw [hsym.out] at hcR
      have hcI := hid hcI
      have hcR := hid hcR
      clear e2
      go_wp2_with fail
      refine wp_region_later (by kernel_rfl) (by kernel_rfl) ?_
      repeat (go_big_quiet_step (first | (go_at_call 19; exact later_of (hcI.out _ (Later.ok _))) | (go_at_call 18; exact later_of (hcR.out _ (Later.ok _)))))
      refine wpQuiet_nil ?_
      rintro w9 ⟨⟨_, E9⟩, rfl⟩
      go_wp2_with fail
      go_ret
      exact ⟨rfl, hEE.out.trans E9⟩
    · obtain ⟨h1, h2⟩ := srL_bad hc
      rw [h1, h2]
      have hcI : ¬ srC l1 a b = 0 := hc
      clear hc hC sr hfl h1 h2
      obtain ⟨D, hD⟩ : ∃ D, D = srC l1 a b := ⟨_, rfl⟩
      rw [← hD] at hcI ⊢
      replace hD := hid hD
      go_wp2_with fail
      go_ret
      exact ⟨rfl, hEE.out⟩
end Go.Proofs.Ythdilndfcdpeiaa
