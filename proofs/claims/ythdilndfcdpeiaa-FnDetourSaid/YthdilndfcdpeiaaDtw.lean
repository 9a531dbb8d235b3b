/- The law FnDetour. No condition but that the code's length fits. -/
import Derived.Test.YthdilndfcdpeiaaDru
import Derived.Test.YthdilndfcdpeiaaUna
import Derived.Test.YthdilndfcdpeiaaRds
import Derived.Test.YthdilndfcdpeiaaOpv
namespace Go.Proofs.Ythdilndfcdpeiaa
open Go.RowKit

def byts (l : List Int) : List Value := l.map (Value.int .u8)
theorem bytes_at {w : World} {b off n : Nat} {l : List Int} (h : SlT encU 1 w (some ⟨b, off, none⟩) n l) : ∀ j u, (byts l)[j]? = some u → w.cell? ((⟨b, off, none⟩ : Addr).add j) = some u := by
  intro j u hu
  rw [byts, List.getElem?_map] at hu
  cases hx : l[j]? with
  | none => rw [hx] at hu; cases hu
  | some x =>
    rw [hx] at hu
    cases hu
    rcases h.2 with h0 | ⟨b', off', hp, hb, hc⟩
    · have := (List.getElem?_eq_some_iff.1 hx).1; have := h.1; omega
    · cases hp
      have := hc j x hx 0 _ rfl
      rw [add_plain]
      simpa using this
theorem info_U8 : (Try.prog.info? 5).map (fun i => (i.zero, i.size, i.bytes)) = some (some (.int .u8 0), 1, 1) := by kernel_rfl
theorem flatU (l : List Int) : l.flatMap encU = byts l := by
  induction l with
  | nil => rfl
  | cons x l ih => rw [List.flatMap_cons, ih]; rfl
theorem one_byts (l : List Int) : ∀ u ∈ byts l, u.oneCell' = true := by
  intro u hu
  rw [byts, List.mem_map] at hu
  obtain ⟨x, _, rfl⟩ := hu
  rfl
/-- What other leaves: a code that is longer by three. -/
def OthB (n : Nat) (w : World) (e : Ending) (w' : World) : Prop := ∃ (q : Option Addr) (c : Nat) (l : List Int), e = .returned (.slice q (n + 3) c) ∧ SlT encU 1 w' q (n + 3) l ∧ (∀ x ∈ l, 0 ≤ x ∧ x ≤ 255) ∧ Ext w w'
set_option maxHeartbeats 4000000 in
theorem other_any (q : Option Addr) (n c : Nat) (l : List Int) (w : World) (h : SlT encU 1 w q n l) (hu : ∀ x ∈ l, 0 ≤ x ∧ x ≤ 255) (hn : n ≤ 1048576) (hq : q = none → c = 0) :
    Calls Try.prog 44 #[.slice q n c, .int .u8 7] w (OthB n w) := by
  obtain ⟨i0, hi, hz0, hz1, hz2⟩ := info_parts info_U8
  have hlen := h.length
  have ho0 : (w.alloc (.cells #[.int .u8 7, .int .u8 14, .int .u8 21] 5)).ownsRow w.heap.size 5 1 (.slice (some ⟨w.heap.size, 0, none⟩) 3 3) 3 (byts [7, 14, 21]) :=
    owns_blk (n := 3) (size := 1) (cs := byts [7, 14, 21]) (heap_new _ _) (Nat.le_refl _) rfl (by simp [maxLen])
  have hu3 : Hid (∀ x ∈ [7, 14, 21] ++ l, (0 : Int) ≤ x ∧ x ≤ 255) := by
    intro x hx
    rw [List.mem_append] at hx
    rcases hx with hx | hx
    · simp at hx; omega
    · exact hu x hx
  replace ho0 := hid ho0
  clear hu
  cases q with
  | none =>
    obtain rfl : n = 0 := by
      rcases h.2 with h0 | ⟨b, off, hp, _⟩
      · exact h0
      · cases hp
    obtain rfl : l = [] := List.eq_nil_of_length_eq_zero hlen
    obtain rfl : c = 0 := hq rfl
    go_enter Try.func44, Try.ntmps44
    go_wp2_with (at_builtin; refine wpList_append_own_none rfl _ _ 22 rfl w.heap.size 5 i0 1 Try.underlying22 hi _ 3 (byts [7, 14, 21]) rfl ho0.out rfl ?_)
    go_ret
    have hs : SlT encU 1 (w.alloc (.cells #[.int .u8 7, .int .u8 14, .int .u8 21] 5)) (some ⟨w.heap.size, 0, none⟩) 3 [7, 14, 21] := SlT.of_owns (enc := encU) (sz := 1) (l := [7, 14, 21]) encU_len rfl (by rw [flatU]; exact ho0.out)
    exact ⟨_, _, [7, 14, 21], rfl, hs, by simp, (Ext.refl _).alloc _⟩
  | some ad =>
    have hcell : Hid (∀ j u, (byts l)[j]? = some u → (w.alloc (.cells #[.int .u8 7, .int .u8 14, .int .u8 21] 5)).cell? (ad.add j) = some u) := by
      intro j u hju
      have hne : n ≠ 0 := by
        rw [byts, List.getElem?_map] at hju
        intro h0
        rw [List.getElem?_eq_none (by omega)] at hju; cases hju
      rcases h.2 with h0 | ⟨b, off, hp, hb, hc⟩
      · exact absurd h0 hne
      · cases hp
        exact bytes_at (h.ext ((Ext.refl _).alloc _)) j u hju
    have hcl : (byts l).length = n * 1 := by rw [byts, List.length_map, hlen]; omega
    have hcl := hid hcl
    go_enter Try.func44, Try.ntmps44
    go_wp2_with (at_builtin; refine wpList_append_own_at _ rfl _ _ 22 rfl w.heap.size 5 i0 _ 1 1 Try.underlying22 hi hz0 hz1 hz2 rfl (by omega) _ 3 (byts [7, 14, 21]) rfl ho0.out ad n c (byts l) rfl hcl.out hcell.out (one_byts l) (len_le (by omega) (by omega)) (by omega) (by simp) ?_; intro v' w6 ho' hg' _ hb'; obtain ⟨qa, ca, rfl⟩ := owns_forms ho'; have t4 := hid (((Ext.refl w).alloc (.cells #[.int .u8 7, .int .u8 14, .int .u8 21] 5)).grown hg' (fun k hk => (ho0.out.lt k hk).1)); replace ho' := hid ho'; clear hg' hb')
    go_ret
    have hs : SlT encU 1 w6 qa (3 + n) ([7, 14, 21] ++ l) := SlT.of_owns (enc := encU) (sz := 1) (l := [7, 14, 21] ++ l) encU_len (by rw [List.length_append, hlen]; rfl) (by rw [List.flatMap_append, flatU, flatU]; exact ho'.out)
    rw [Nat.add_comm] at hs
    exact ⟨qa, ca, [7, 14, 21] ++ l, by show Ending.returned (Value.slice qa (3 + n) ca) = _; rw [Nat.add_comm 3 n], hs, hu3.out, t4.out⟩
set_option maxRecDepth 100000 in
set_option maxHeartbeats 16000000 in
theorem fnDetour_any (q : Option Addr) (n c : Nat) (l : List Int) (w : World) (h : SlT encU 1 w q n l) (hu : ∀ x ∈ l, 0 ≤ x ∧ x ≤ 255) (_hm : n ≤ maxLen) (hz : q = none → c = 0) :
    Calls Try.prog 10 #[.slice q n c] w fun e w' => e = .returned (.bool true) ∧ Ext w w' := by
  have hu := hid hu
  have hz := hid hz
  clear _hm
  by_cases hbig : 4096 < (n : Int)
  · have hbd : Hid (decide (4096 < (n : Int)) = true) := decide_eq_true hbig
    go_enter Try.func10, Try.ntmps10
    go_wp2_with fail
    refine (big_any q n c _).mono ?_
    rw [hbd.out]
    rintro e w' ⟨rfl, rfl⟩
    go_wp2_with fail
    go_ret
    exact ⟨rfl, Ext.refl _⟩
  · have hn : n ≤ 1048000 := by omega
    have hbd : Hid (decide (4096 < (n : Int)) = false) := decide_eq_false hbig
    go_enter Try.func10, Try.ntmps10
    go_wp2_with fail
    refine (big_any q n c _).mono ?_
    rw [hbd.out]
    rintro e w' ⟨rfl, rfl⟩
    clear hbig
    go_wp2_with fail
    refine (drawRouteDistance_any q n c l _ h hu.out (by omega)).mono ?_
    rintro e w1 ⟨q1, n1, c1, l1, a, b, rfl, s1, hn1, _, hna, hnb, E1⟩
    go_wp2_with fail
    generalize hW : (w1.alloc _).alloc _ = W0
    obtain ⟨E0, z0, bA, bB⟩ := boxes2 hW
    clear hW
    have gA := hid (show Blk W0 w1.heap.size [.int .i64 a.a, .int .i64 a.b] _ from bA)
    have gB := hid (show Blk W0 (w1.heap.size + 1) [.int .i64 b.a, .int .i64 b.b] _ from bB)
    clear bA bB
    replace z0 := hid z0
    replace s1 := hid (s1.ext E0)
    have hEE := hid (E1.trans E0)
    refine (other_any q n c l _ (h.ext hEE.out) hu.out (by omega) hz.out).mono ?_
    rintro e w2 ⟨qo, co, lo, rfl, so, huo, E2⟩
    have huo := hid huo
    go_wp2_with fail
    refine (drawRouteDistance_any qo (n + 3) co lo _ so huo.out (by omega)).mono ?_
    rintro e w3 ⟨q2, n2, c2, l2, a2, b2, rfl, s2, hn2, _, _, _, E3⟩
    go_wp2_with fail
    generalize hW : (w3.alloc _).alloc _ = W1
    obtain ⟨E4, z4, bC, bD⟩ := boxes2 hW
    clear hW bC bD
    replace z4 := hid z4
    replace s2 := hid (s2.ext E4)
    have hE4 := hid (E2.trans (E3.trans E4))
    clear E0 E1 E2 E3 E4 so
    refine (specIsRegion_any q1 n1 c1 l1 _ (s1.out.ext hE4.out) (by omega)).mono ?_
    cases r1 : isReg l1 with
    | false =>
      rintro e w5 ⟨rfl, E5⟩
      have hE5 := hid (hE4.out.trans E5)
      clear r1 E5
      have a0 := (gA.out.ext hE5.out).cells 0
      have a1 := (gA.out.ext hE5.out).cells 1
      have b0 := (gB.out.ext hE5.out).cells 0
      have b1 := (gB.out.ext hE5.out).cells 1
      simp only [List.getElem?_cons_zero, List.getElem?_cons_succ] at a0 a1 b0 b1
      have hlA := (gA.out.ext hE5.out).lt
      have hlB := (gB.out.ext hE5.out).lt
      have hcI := hid (fun W (hW : Ext w5 W) => RouteDistance_any q1 n1 c1 l1 a b W ((s1.out.ext hE5.out).ext hW) (by omega))
      have hcS := hid (fun W (hW : Ext w5 W) => specRouteDistance_any q1 n1 c1 l1 a b W ((s1.out.ext hE5.out).ext hW) (by omega))
      go_wp2_with fail
      refine wp_region_later (by kernel_rfl) (by kernel_rfl) ?_
      repeat (go_big_quiet_step (first | (go_at_call 18; exact later_of (hcI.out _ (Later.ok _))) | (go_at_call 35; exact later_of (hcS.out _ (Later.ok _)))))
      refine wpQuiet_nil ?_
      rintro w9 ⟨⟨_, E9⟩, rfl⟩
      go_wp2_with fail
      go_ret
      exact ⟨ret_bool (by simp), hEE.out.trans (hE5.out.trans E9)⟩
    | true =>
      rintro e w5 ⟨rfl, E5⟩
      have r1 := hid r1
      have hE5 := hid (hE4.out.trans E5)
      replace s2 := hid (s2.out.ext E5)
      clear E5
      go_wp2_with fail
      refine (specIsRegion_any q2 n2 c2 l2 _ s2.out (by omega)).mono ?_
      cases r2 : isReg l2 with
      | false =>
        rintro e w6 ⟨rfl, E6⟩
        have hE6 := hid (hE5.out.trans E6)
        clear r2 E6
        have a0 := (gA.out.ext hE6.out).cells 0
        have a1 := (gA.out.ext hE6.out).cells 1
        have b0 := (gB.out.ext hE6.out).cells 0
        have b1 := (gB.out.ext hE6.out).cells 1
        simp only [List.getElem?_cons_zero, List.getElem?_cons_succ] at a0 a1 b0 b1
        have hlA := (gA.out.ext hE6.out).lt
        have hlB := (gB.out.ext hE6.out).lt
        have hcI := hid (fun W (hW : Ext w6 W) => RouteDistance_any q1 n1 c1 l1 a b W ((s1.out.ext hE6.out).ext hW) (by omega))
        have hcS := hid (fun W (hW : Ext w6 W) => specRouteDistance_any q1 n1 c1 l1 a b W ((s1.out.ext hE6.out).ext hW) (by omega))
        go_wp2_with fail
        refine wp_region_later (by kernel_rfl) (by kernel_rfl) ?_
        repeat (go_big_quiet_step (first | (go_at_call 18; exact later_of (hcI.out _ (Later.ok _))) | (go_at_call 35; exact later_of (hcS.out _ (Later.ok _)))))
        refine wpQuiet_nil ?_
        rintro w9 ⟨⟨_, E9⟩, rfl⟩
        go_wp2_with fail
        go_ret
        exact ⟨ret_bool (by simp), hEE.out.trans (hE6.out.trans E9)⟩
      | true =>
        rintro e w6 ⟨rfl, E6⟩
        have r2 := hid r2
        have hE6 := hid (hE5.out.trans E6)
        replace s2 := hid (s2.out.ext E6)
        clear E6
        have a0 := (gA.out.ext hE6.out).cells 0
        have a1 := (gA.out.ext hE6.out).cells 1
        have b0 := (gB.out.ext hE6.out).cells 0
        have b1 := (gB.out.ext hE6.out).cells 1
        simp only [List.getElem?_cons_zero, List.getElem?_cons_succ] at a0 a1 b0 b1
        have hlA := (gA.out.ext hE6.out).lt
        have hlB := (gB.out.ext hE6.out).lt
        go_wp2_with fail
        refine (RouteDistance_any q1 n1 c1 l1 a b _ (s1.out.ext hE6.out) (by omega)).mono ?_
        rintro e w7 ⟨rfl, E7⟩
        have hE7 := hid (hE6.out.trans E7)
        replace s2 := hid (s2.out.ext E7)
        clear a0 a1 b0 b1 hlA hlB E7
        have a0 := (gA.out.ext hE7.out).cells 0
        have a1 := (gA.out.ext hE7.out).cells 1
        have b0 := (gB.out.ext hE7.out).cells 0
        have b1 := (gB.out.ext hE7.out).cells 1
        simp only [List.getElem?_cons_zero, List.getElem?_cons_succ] at a0 a1 b0 b1
        have hlA := (gA.out.ext hE7.out).lt
        have hlB := (gB.out.ext hE7.out).lt
        have hlaw := detour_law (l := l1) (m := l2) (a := a) (b := b) r1.out
        have hUl := canon_len (combG (gL l1) (gL l2))
        obtain ⟨A, hA⟩ : ∃ A, A = rdL l1 a b := ⟨_, rfl⟩
        obtain ⟨U, hU⟩ : ∃ U, U = canon (combG (gL l1) (gL l2)) := ⟨_, rfl⟩
        have hun := fun W (hW : Ext w7 W) => specUnion_any q1 q2 n1 n2 c1 c2 l1 l2 W ((s1.out.ext hE7.out).ext hW) (s2.out.ext hW) (by omega) (by omega) r1.out r2.out
        rw [← hU] at hlaw hUl hun
        rw [← hA] at hlaw ⊢
        have hun := hid hun
        replace hA := hid hA
        replace hU := hid hU
        obtain ⟨B, hB⟩ : ∃ B, B = rdL U a b := ⟨_, rfl⟩
        rw [← hB] at hlaw
        have hrd := fun W (qu : Option Addr) (cu : Nat) (hS : SlT enc4 4 W qu U.length U) => RouteDistance_any qu U.length cu U a b W hS (by omega)
        rw [← hB] at hrd
        have hrd := hid hrd
        replace hB := hid hB
        have hlaw := hid hlaw
        obtain ⟨⟨na0, na1⟩, na2, na3⟩ := hna
        obtain ⟨⟨nb0, nb1⟩, nb2, nb3⟩ := hnb
        go_wp2_with fail
        have hX : Ext w7 _ := (Ext.refl w7).drew
        have keepS := hid (show ∀ W, Ext w7 W → (W.cell? ⟨w1.heap.size, 0, none⟩ = some (.int .i64 a.a) ∧ W.cell? ⟨w1.heap.size, 1, none⟩ = some (.int .i64 a.b) ∧ W.cell? ⟨w1.heap.size + 1, 0, none⟩ = some (.int .i64 b.a) ∧ W.cell? ⟨w1.heap.size + 1, 1, none⟩ = some (.int .i64 b.b)) from fun W hE => ⟨(hE.cells _ _ hlA).trans a0, (hE.cells _ _ hlA).trans a1, (hE.cells _ _ hlB).trans b0, (hE.cells _ _ hlB).trans b1⟩)
        go_region_held3 (fun W => W.cell? ⟨w1.heap.size, 0, none⟩ = some (.int .i64 a.a) ∧ W.cell? ⟨w1.heap.size, 1, none⟩ = some (.int .i64 a.b) ∧ W.cell? ⟨w1.heap.size + 1, 0, none⟩ = some (.int .i64 b.a) ∧ W.cell? ⟨w1.heap.size + 1, 1, none⟩ = some (.int .i64 b.b))
          (exact keepS.out _ hX)
          (first
            | (go_at_call 45; refine (hun.out _ hX).mono ?_; rintro e w8 ⟨qu, cu, rfl, su, E⟩; replace hX := hX.trans E; replace su := hid su; clear E)
            | (go_at_call 18; refine (hrd.out _ _ _ su.out).mono ?_; rintro e w9 ⟨rfl, E⟩; replace hX := hX.trans E; clear E))
        have k := keepS.out _ hX
        obtain ⟨k0, k1, k2, k3⟩ := k
        have hlA9 := Nat.lt_of_lt_of_le hlA hX.le
        have hlB9 := Nat.lt_of_lt_of_le hlB hX.le
        have hX9 := hid hX
        clear a0 a1 b0 b1 hX su keepS hlA hlB
        rcases hlaw.out with hB1 | ⟨l0, l2', l3, l4⟩
        · have hBb : (B == -1) = true := by rw [hB1]; rfl
          go_wp2_with fail
          go_ret
          exact ⟨ret_bool (by simp), hEE.out.trans (hE7.out.trans hX9.out)⟩
        · have hBb : (B == -1) = false := by simp; omega
          go_wp2_with fail
          all_goals
            go_ret
            exact ⟨ret_bool (by simp <;> omega), hEE.out.trans (hE7.out.trans hX9.out)⟩
end Go.Proofs.Ythdilndfcdpeiaa
