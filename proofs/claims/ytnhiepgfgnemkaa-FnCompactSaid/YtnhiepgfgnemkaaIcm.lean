/- Contracts of IsCompatible (program and reference), and the law FnExactIsCompatible over them. Condition: at most 2^20 elements. -/
import Derived.Test.YtnhiepgfgnemkaaCon
namespace Go.Proofs.Ytnhiepgfgnemkaa
open Go.RowKit

/-- What is asked of a predicate: at every element of the list. -/
def PredCm (g : Nat) (lb : Array Value) (p : Q3 → Bool) (l : List Q3) (w : World) : Prop := ∀ (W : World) (x : Q3), x ∈ l → Ext w W → Calls Try.prog g (#[.agg #[.int .i64 x.a, .int .i64 x.b, .int .i64 x.c]] ++ lb) W fun e w' => e = .returned (.bool (p x)) ∧ Ext W w'
set_option maxRecDepth 100000 in
set_option maxHeartbeats 400000 in
theorem indexFuncCm_any (q : Option Addr) (n c : Nat) (l : List Q3) (p : Q3 → Bool) (g : Nat) (lb : Array Value) (eg : ∀ args w, (callFunc g args).run Try.prog w = .ok (.enter g args) w) (w : World)
    (h : SlT enc3 3 w q n l) (hp : PredCm g lb p l w) (hn : n ≤ 1048576) :
    Calls Try.prog 70 #[.slice q n c, .func (.func g) #[] lb] w fun e w' => e = .returned (.int .i64 (idx p l)) ∧ Ext w w' := by
  have hl := hid h.length
  go_enter Try.func70, Try.ntmps70
  go_wp2
  go_loopw [5, 8] (fun _ i wr => ∃ k : Nat, k ≤ n ∧ i = .int .i64 k ∧ Ext w wr ∧ Hid ((l.take k).any p = false)) (fun _ i _ => n - (intOf i).toNat)
  case atStart => exact ⟨0, by omega, rfl, Ext.refl _, rfl⟩
  case round =>
    obtain ⟨k, hk, rfl, hE, hA⟩ := hrel
    by_cases hlt : k < n
    · obtain ⟨b, off, x, rfl, hb, hx, c0, c1, c2⟩ := (h.ext hE).three hlt
      have hcall := hp wr x (List.mem_of_getElem? hx.out) hE
      cases hq : p x with
      | true =>
        rw [hq] at hcall
        have hr : Hid (idx p l = k) := idx_hit hA.out hx.out hq
        clear hq
        go_wp2_with (go_at_fn g; refine hcall.mono ?_; rintro e w' ⟨rfl, hb'⟩)
        go_ret
        exact ⟨ret_int hr.out.symm, hE.trans hb'⟩
      | false =>
        rw [hq] at hcall
        have hr : Hid ((l.take (k + 1)).any p = false) := any_take_snoc hA.out hx.out hq
        clear hq
        go_wp2_with (go_at_fn g; refine hcall.mono ?_; rintro e w' ⟨rfl, hb'⟩)
        go_roundw
        case rel => exact ⟨k + 1, by omega, by go_num, hE.trans hb', hr⟩
        case measure => simp [intOf]; omega
    · have hr : Hid (idx p l = -1) := by
        have := hA.out
        rw [take_all hl.out (by omega)] at this
        exact idx_miss this
      go_wp2_with fail
      go_ret
      exact ⟨ret_int hr.out.symm, hE⟩
set_option maxHeartbeats 400000 in
theorem containsFuncCm_any (q : Option Addr) (n c : Nat) (l : List Q3) (p : Q3 → Bool) (g : Nat) (lb : Array Value) (eg : ∀ args w, (callFunc g args).run Try.prog w = .ok (.enter g args) w) (w : World)
    (h : SlT enc3 3 w q n l) (hp : PredCm g lb p l w) (hn : n ≤ 1048576) :
    Calls Try.prog 60 #[.slice q n c, .func (.func g) #[] lb] w fun e w' => e = .returned (.bool (l.any p)) ∧ Ext w w' := by
  have hr := hid (idx_any p l)
  go_enter Try.func60, Try.ntmps60
  go_wp2_with (go_at_call 70; refine (indexFuncCm_any q n c l p g lb eg _ h hp hn).mono ?_; rintro e w' ⟨rfl, hE⟩)
  go_ret
  exact ⟨ret_bool hr.out, hE⟩

def xA (xs : List Int) (i : Int) : Int := xs.getD i.toNat 0
theorem xA_at {xs : List Int} {i : Nat} {x : Int} (h : xs[i]? = some x) : xA xs i = x := by rw [xA, Int.toNat_natCast, getD_of h]
def badC (xs : List Int) (c : Q3) : Bool := decide (xA xs c.b < xA xs c.a + c.c)
/-- The arrangement keeps the list. -/
def compB (l : List Q4) (g : Int) (xs : List Int) : Bool := decide (codeB l g = 0) && (validXsB l xs && !(csL l g).any (badC xs))
/-- Edges within n nodes, with small distances. -/
def EdgeOk (e : Q3) (n : Nat) : Prop := (∃ i : Nat, e.a = i ∧ i < n) ∧ (∃ i : Nat, e.b = i ∧ i < n) ∧ 0 ≤ e.c ∧ e.c ≤ 48
theorem csL_edge {l : List Q4} {g : Int} (hl : isBL l = true) (hg : wit g 0 8 = true) : ∀ e ∈ csL l g, EdgeOk e l.length := fun e he => by
  obtain ⟨i, hi, k, hk, -, he⟩ := csL_mem.1 he
  obtain ⟨i, rfl, hi'⟩ := upto_mem hi
  obtain ⟨k, rfl, hk'⟩ := upto_mem hk
  have he' := one_mem he
  subst he'
  have hx : l[i]? = some l[i] := List.getElem?_eq_getElem hi'
  have hv := vblk_iff.1 ((isBL_parts hl).2 _ (List.mem_of_getElem? hx))
  have hg' := wit_iff.1 hg
  rw [bA_at hx]
  exact ⟨⟨i, rfl, hi'⟩, ⟨k, rfl, hk'⟩, by show 0 ≤ _ + g; omega, by show _ + g ≤ 48; omega⟩
set_option maxRecDepth 100000 in
set_option maxHeartbeats 1000000 in
theorem isC1_any (bx : Nat) (q : Option Addr) (m c : Nat) (xs : List Int) (x : Q3) (W : World) (h : SlT enc1 1 W q m xs) (hb : Blk W bx [.slice q m c] 23) (hx : EdgeOk x m) (hxs : Hid (xsOk xs = true)) :
    Calls Try.prog 62 #[.agg #[.int .i64 x.a, .int .i64 x.b, .int .i64 x.c], .pointer (some ⟨bx, 0, none⟩)] W fun e w' => e = .returned (.bool (badC xs x)) ∧ Ext W w' := by
  obtain ⟨x1, x2, x3⟩ := x
  obtain ⟨⟨A, hA, hAm⟩, ⟨D, hD, hDm⟩, hc0, hc1⟩ := hx
  simp only at hA hD hc0 hc1 ⊢
  subst hA hD
  obtain ⟨b, off, u, rfl, hbl, hu, u0⟩ := h.int hAm
  obtain ⟨b', off', v, e, hbl', hv, v0⟩ := h.int hDm
  cases e
  have hr : Hid (decide (v < u + x3) = badC xs ⟨A, D, x3⟩) := by show _ = _; rw [badC, xA_at hu.out, xA_at hv.out]
  have bu := xsOk_at hxs.out hu.out
  have bv := xsOk_at hxs.out hv.out
  obtain ⟨bu0, bu1⟩ := bu
  obtain ⟨bv0, bv1⟩ := bv
  have hAI : (A : Int) < m := by omega
  have hDI : (D : Int) < m := by omega
  have hbx := hb.lt
  go_enter Try.func62, Try.ntmps62
  go_wp2_with fail
  generalize hW : W.alloc _ = W0
  obtain ⟨E0, z0, b0⟩ := boxes1 hW
  clear hW
  have gb := (show Blk W0 _ [_, _, _] _ from b0).cells
  have k0 := gb 0
  have k1 := gb 1
  have k2 := gb 2
  have g0 := (hb.ext E0).cells 0
  simp only [List.getElem?_cons_zero, List.getElem?_cons_succ] at k0 k1 k2 g0
  have y0 := (E0.cells b (off + A) hbl).trans u0
  have y1 := (E0.cells b (off + D) hbl).trans v0
  have hbl0 : b < W0.heap.size := by omega
  have hbx0 : bx < W0.heap.size := by omega
  have hn0 : W.heap.size < W0.heap.size := by omega
  replace z0 := hid z0
  clear gb b0 u0 v0
  have hw1 : IntKind.i64.wrap (u + x3) = u + x3 := IntWalk.i64_in _ (by omega)
  refine wp_region_later (by kernel_rfl) (by kernel_rfl) ?_
  repeat (go_big_quiet_step (fail))
  refine wpQuiet_nil ?_
  rintro w7 ⟨⟨_, h7⟩, rfl⟩
  go_wp2
  go_ret
  exact ⟨ret_bool hr.out, E0.trans h7⟩
set_option maxRecDepth 100000 in
set_option maxHeartbeats 1000000 in
theorem IsCompatible_any (p1 p2 : Option Addr) (n m c1 c2 : Nat) (l : List Q4) (xs : List Int) (g : Int) (w : World) (h1 : SlT enc4 4 w p1 n l) (h2 : SlT enc1 1 w p2 m xs) (hn : n ≤ 1048576) (hm : m ≤ 1048576) :
    Calls Try.prog 19 #[.slice p1 n c1, .int .i64 g, .slice p2 m c2] w fun e w' => e = .returned (.bool (compB l g xs)) ∧ Ext w w' := by
  have hcall := fun W (hE : Ext w W) => blocksCode_any p1 n c1 l g W (h1.ext hE) hn
  have hval := fun W (hE : Ext w W) => validXs_any p1 p2 n m c1 c2 l xs W (h1.ext hE) (h2.ext hE) hn hm
  go_enter Try.func19, Try.ntmps19
  go_wp2_with fail
  generalize hW : w.alloc _ = W0
  obtain ⟨E0, z0, b0⟩ := boxes1 hW
  clear hW
  have gb := (show Blk W0 _ [_] _ from b0)
  clear b0
  replace z0 := hid z0
  by_cases hok : isBL l = true ∧ wit g 0 8 = true
  · obtain ⟨hl, hg⟩ := hok
    have hc : codeB l g = 0 := by rw [codeB, if_pos hl, if_pos hg]
    rw [hc] at hcall
    refine (hcall _ E0).mono ?_
    rintro e w1 ⟨rfl, E1⟩
    have g1 := (gb.ext E1).cells 0
    simp only [List.getElem?_cons_zero] at g1
    cases hv : validXsB l xs with
    | false =>
      rw [hv] at hval
      have hr : Hid (false = compB l g xs) := by show _ = _; rw [compB, hv]; simp
      clear hv hc hcall
      go_wp2_with fail
      refine (hval _ (E0.trans E1)).mono ?_
      rintro e w2 ⟨rfl, E2⟩
      go_wp2_with fail
      go_ret
      exact ⟨ret_bool hr.out, E0.trans (E1.trans E2)⟩
    | true =>
      rw [hv] at hval
      have hlm : m = n := by
        rw [validXsB, Bool.and_eq_true, decide_eq_true_iff] at hv
        rw [← h1.length, ← h2.length]; exact hv.1
      have hxs : Hid (xsOk xs = true) := by rw [validXsB, Bool.and_eq_true] at hv; exact hv.2
      subst hlm
      have hr : Hid ((!(csL l g).any (badC xs)) = compB l g xs) := by show _ = _; rw [compB, hv, hc]; simp
      clear hv hc hcall
      have l1 := hid h1.length
      have hcl : (csL l g).length ≤ 144 := by have := csL_len l g; rw [h1.length] at this; have h12 := (isBL_parts hl).1; rw [h1.length] at h12; have := Nat.mul_le_mul h12 h12; omega
      have hee := hid (csL_edge hl hg)
      rw [l1.out] at hee
      replace hl := hid hl
      replace hg := hid hg
      go_wp2_with fail
      refine (hval _ (E0.trans E1)).mono ?_
      clear hval
      rintro e w2 ⟨rfl, E2⟩
      clear g1
      go_wp2_with fail
      refine (constraints_any p1 m c1 l g _ (h1.ext (E0.trans (E1.trans E2))) hl.out hg.out).mono ?_
      rintro e w3 ⟨q3, c3, rfl, o3, E3⟩
      have E03 := E0.trans (E1.trans (E2.trans E3))
      have E13 := E1.trans (E2.trans E3)
      have s3 := SlT.of_owns (l := csL l g) enc3_len rfl o3
      have hp : Hid (PredCm 62 #[.pointer (some ⟨w.heap.size, 0, none⟩)] (badC xs) (csL l g) w3) := fun W x hx hE =>
        isC1_any w.heap.size p2 m c2 xs x W (h2.ext (E03.trans hE)) (gb.ext (E13.trans hE)) (hee.out x hx) hxs
      go_wp2_with fail
      refine (containsFuncCm_any q3 _ c3 (csL l g) (badC xs) 62 _ (enters_of Try.func62 (by kernel_rfl) rfl) _ s3 hp.out (by omega)).mono ?_
      rintro e w4 ⟨rfl, E4⟩
      go_wp2_with fail
      go_ret
      exact ⟨ret_bool hr.out, E03.trans E4⟩
  · obtain ⟨K, hK⟩ : ∃ K, K = codeB l g := ⟨_, rfl⟩
    have hK0 : K ≠ 0 := by
      rw [hK, codeB]; split
      · split
        · exact absurd ⟨‹_›, ‹_›⟩ hok
        · omega
      · omega
    have hr : Hid (false = compB l g xs) := by show _ = _; rw [compB, ← hK, decide_eq_false hK0]; rfl
    rw [← hK] at hcall
    have hd : (K != 0) = true := by simpa using hK0
    replace hK := hid hK
    refine (hcall _ E0).mono ?_
    clear hcall hval
    rintro e w1 ⟨rfl, E1⟩
    go_wp2_with fail
    go_ret
    exact ⟨ret_bool hr.out, E0.trans E1⟩
set_option maxRecDepth 100000 in
set_option maxHeartbeats 2000000 in
theorem specIsCompatible_any (p1 p2 : Option Addr) (n m c1 c2 : Nat) (l : List Q4) (xs : List Int) (g : Int) (w : World) (h1 : SlT enc4 4 w p1 n l) (h2 : SlT enc1 1 w p2 m xs) (hn : n ≤ 1048576) (hm : m ≤ 1048576) :
    Calls Try.prog 16 #[.slice p1 n c1, .int .i64 g, .slice p2 m c2] w fun e w' => e = .returned (.bool (compB l g xs)) ∧ Ext w w' := by
  have hcall := fun W (hE : Ext w W) => l31Code_any p1 n c1 l g W (h1.ext hE) hn
  have hval := fun W (hE : Ext w W) => l31Positions_any p1 p2 n m c1 c2 l xs W (h1.ext hE) (h2.ext hE) hn hm
  go_enter Try.func16, Try.ntmps16
  go_wp2_with fail
  by_cases hok : isBL l = true ∧ wit g 0 8 = true
  · obtain ⟨hl, hg⟩ := hok
    have hc : codeB l g = 0 := by rw [codeB, if_pos hl, if_pos hg]
    rw [hc] at hcall
    refine (hcall _ (Ext.refl _)).mono ?_
    rintro e w1 ⟨rfl, E1⟩
    cases hv : validXsB l xs with
    | false =>
      rw [hv] at hval
      have hr : Hid (false = compB l g xs) := by show _ = _; rw [compB, hv]; simp
      clear hv hc hcall
      go_wp2_with fail
      refine (hval _ E1).mono ?_
      rintro e w2 ⟨rfl, E2⟩
      go_wp2_with fail
      go_ret
      exact ⟨ret_bool hr.out, E1.trans E2⟩
    | true =>
      rw [hv] at hval
      have hlm : m = n := by
        rw [validXsB, Bool.and_eq_true, decide_eq_true_iff] at hv
        rw [← h1.length, ← h2.length]; exact hv.1
      have hxs : Hid (xsOk xs = true) := by rw [validXsB, Bool.and_eq_true] at hv; exact hv.2
      subst hlm
      have hr : Hid (compB l g xs = !(csL l g).any (badC xs)) := by show _ = _; rw [compB, hv, hc]; simp
      clear hv hc hcall
      have l1 := hid h1.length
      have hcl : (csL l g).length ≤ 144 := by have := csL_len l g; rw [h1.length] at this; have h12 := (isBL_parts hl).1; rw [h1.length] at h12; have := Nat.mul_le_mul h12 h12; omega
      have hee := hid (csL_edge hl hg)
      rw [l1.out] at hee
      replace hl := hid hl
      replace hg := hid hg
      go_wp2_with fail
      refine (hval _ E1).mono ?_
      clear hval
      rintro e w2 ⟨rfl, E2⟩
      go_wp2_with fail
      refine (l31Constraints_any p1 m c1 l g _ (h1.ext (E1.trans E2)) hl.out hg.out).mono ?_
      rintro e w3 ⟨q3, c3, rfl, o3, E3⟩
      have E13 := E1.trans (E2.trans E3)
      have s3 := SlT.of_owns (l := csL l g) enc3_len rfl o3
      clear o3
      obtain ⟨E, hEq⟩ : ∃ E, E = csL l g := ⟨_, rfl⟩
      rw [← hEq] at hcl hee s3 hr ⊢
      replace hEq := hid hEq
      go_wp2_with fail
      go_loopw [8] (fun i wr => ∃ k : Nat, k ≤ E.length ∧ i = .int .i64 k ∧ Ext w3 wr ∧ Hid ((E.take k).any (badC xs) = false)) (fun i _ => E.length - (intOf i).toNat)
      case atStart => exact ⟨0, by omega, rfl, Ext.refl _, rfl⟩
      case round =>
        obtain ⟨k, hk, rfl, hX, hA⟩ := hrel
        by_cases hlt : k < E.length
        · obtain ⟨bc, oc, x, rfl, hbc, hx, x0, x1, x2⟩ := (s3.ext hX).three hlt
          obtain ⟨⟨A, hxA, hAm⟩, ⟨D, hxD, hDm⟩, hc0, hc1⟩ := hee.out x (List.mem_of_getElem? hx.out)
          have s2 := h2.ext (E13.trans hX)
          obtain ⟨b, off, u, rfl, hbl, hu, u0⟩ := s2.int hAm
          obtain ⟨b', off', v, e, hbl', hv, v0⟩ := s2.int hDm
          cases e
          have hbd : Hid (badC xs x = decide (v < u + x.c)) := by show _ = _; rw [badC, hxA, hxD, xA_at hu.out, xA_at hv.out]
          rw [hxA] at x0
          rw [hxD] at x1
          have bu := xsOk_at hxs.out hu.out
          have bv := xsOk_at hxs.out hv.out
          obtain ⟨bu0, bu1⟩ := bu
          obtain ⟨bv0, bv1⟩ := bv
          have hAI : (A : Int) < m := by omega
          have hDI : (D : Int) < m := by omega
          have hkI : (k : Int) < E.length := by omega
          have hw1 : IntKind.i64.wrap (v - u) = v - u := IntWalk.i64_in _ (by omega)
          clear hxA hxD s2
          by_cases hlt2 : v - u < x.c
          · have hr2 : Hid (false = compB l g xs) := by
              show _ = _
              rw [hr.out, List.any_eq_true.2 ⟨x, List.mem_of_getElem? hx.out, by rw [hbd.out]; simp; omega⟩]; rfl
            have hd1 : decide (v - u < x.c) = true := by simpa using hlt2
            go_wp2_with fail
            refine wp_region_later (by kernel_rfl) (by kernel_rfl) ?_
            repeat (go_big_quiet_step (fail))
            refine wpQuiet_nil ?_
            rintro w7 ⟨⟨_, h7⟩, rfl⟩
            go_wp2
            go_ret
            exact ⟨ret_bool hr2.out, E13.trans (hX.trans h7)⟩
          · have hnx : Hid ((E.take (k + 1)).any (badC xs) = false) := any_take_snoc hA.out hx.out (by rw [hbd.out]; simp; omega)
            have hd1 : decide (v - u < x.c) = false := by simpa using hlt2
            go_wp2_with fail
            refine wp_region_later (by kernel_rfl) (by kernel_rfl) ?_
            repeat (go_big_quiet_step (fail))
            refine wpQuiet_nil ?_
            rintro w7 ⟨⟨_, h7⟩, rfl⟩
            go_wp2
            go_roundw
            case rel => exact ⟨k + 1, by omega, by go_num, hX.trans h7, hnx⟩
            case measure => simp [intOf]; omega
        · have hr2 : Hid (true = compB l g xs) := by
            have := hA.out
            rw [take_all rfl (by omega)] at this
            show _ = _; rw [hr.out, this]; rfl
          go_wp2
          go_ret
          exact ⟨ret_bool hr2.out, E13.trans hX⟩
  · obtain ⟨K, hK⟩ : ∃ K, K = codeB l g := ⟨_, rfl⟩
    have hK0 : K ≠ 0 := by
      rw [hK, codeB]; split
      · split
        · exact absurd ⟨‹_›, ‹_›⟩ hok
        · omega
      · omega
    have hr : Hid (false = compB l g xs) := by show _ = _; rw [compB, ← hK, decide_eq_false hK0]; rfl
    rw [← hK] at hcall
    have hd : (K != 0) = true := by simpa using hK0
    replace hK := hid hK
    refine (hcall _ (Ext.refl _)).mono ?_
    clear hcall hval
    rintro e w1 ⟨rfl, E1⟩
    go_wp2_with fail
    go_ret
    exact ⟨ret_bool hr.out, E1⟩
set_option maxRecDepth 100000 in
set_option maxHeartbeats 4000000 in
theorem lawIsCompatible (q0 : Option Addr) (n0 c0 : Nat) (l0 : List Q4) (a1 : Int) (q2 : Option Addr) (n2 c2 : Nat) (l2 : List Int) (s0 : Bool) (w : World) (h0 : SlT enc4 4 w q0 n0 l0) (m0 : n0 ≤ maxLen) (h2 : SlT enc1 1 w q2 n2 l2) (m2 : n2 ≤ maxLen) 
    (hS : Hid (n0 ≤ 1048576 → n2 ≤ 1048576 → ∀ (W : World) (q0 : Option Addr) (c0 : Nat) (q2 : Option Addr) (c2 : Nat), SlT enc4 4 W q0 n0 l0 → SlT enc1 1 W q2 n2 l2 → Calls Try.prog 16 #[.slice q0 n0 c0, .int .i64 a1, .slice q2 n2 c2] W fun e w' => e = .returned (.bool s0) ∧ Ext W w'))
    (hI : Hid (n0 ≤ 1048576 → n2 ≤ 1048576 → ∀ (W : World) (q0 : Option Addr) (c0 : Nat) (q2 : Option Addr) (c2 : Nat), SlT enc4 4 W q0 n0 l0 → SlT enc1 1 W q2 n2 l2 → Calls Try.prog 19 #[.slice q0 n0 c0, .int .i64 a1, .slice q2 n2 c2] W fun e w' => e = .returned (.bool s0) ∧ Ext W w')) :
    Calls Try.prog 3 #[.slice q0 n0 c0, .int .i64 a1, .slice q2 n2 c2] w fun e w' => e = .returned (.bool true) ∧ Ext w w' := by
  have e0 := hid h0.length
  have e2 := hid h2.length
  unfold maxLen at m0
  unfold maxLen at m2
  by_cases x0 : (1048576 : Int) < n2
  · go_enter Try.func3, Try.ntmps3
    go_wp2_with fail
    go_ret
    exact ⟨rfl, Ext.refl _⟩
  by_cases x1 : 1048576 < (n0 : Int)
  · go_enter Try.func3, Try.ntmps3
    go_wp2_with fail
    refine (szBlockS_any q0 n0 c0 _ _ (by omega) (by omega) (by omega)).mono ?_
    rintro e w' ⟨rfl, rfl⟩
    rw [if_pos (by omega)]
    go_wp2_with fail
    go_ret
    exact ⟨rfl, Ext.refl _⟩
  go_enter Try.func3, Try.ntmps3
  go_wp2_with fail
  refine (szBlockS_any q0 n0 c0 _ _ (by omega) (by omega) (by omega)).mono ?_
  rintro e w' ⟨rfl, rfl⟩
  rw [if_neg (by omega)]
  have y0 := x0
  have y1 := x1
  replace x0 : n2 ≤ 1048576 := by omega
  replace x1 : n0 ≤ 1048576 := by omega
  clear y0
  clear y1
  have F := Ext.refl w
  go_wp2_with fail
  refine (toBlockS_any _ n0 _ l0 _ (h0.ext F) (by omega)).mono ?_
  rintro e w1 ⟨t0, rfl, ot0, E⟩
  replace F := F.trans E
  clear E
  go_wp2_with fail
  refine (toInt64S_any _ n2 _ l2 _ (h2.ext F) (by omega)).mono ?_
  rintro e w2 ⟨t2, rfl, ot2, E⟩
  replace ot0 := owns_ext ot0 E
  replace F := F.trans E
  clear E
  go_wp2_with fail
  refine (hS.out x1 x0 _ _ _ _ _ (SlT.of_owns enc4_len e0.out ot0) (SlT.of_owns enc1_len e2.out ot2)).mono ?_
  rintro e w3 ⟨rfl, E⟩
  replace F := F.trans E
  clear E ot0 ot2
  have S := Ext.refl w3
  go_wp2_with fail
  refine (toBlockS_any _ n0 _ l0 _ (h0.ext F) (by omega)).mono ?_
  rintro e w4 ⟨x0q, rfl, ox0, E⟩
  replace F := F.trans E
  replace S := S.trans E
  have zx0 := E.le
  clear E
  go_wp2_with fail
  refine (toInt64S_any _ n2 _ l2 _ (h2.ext F) (by omega)).mono ?_
  rintro e w5 ⟨x2q, rfl, ox2, E⟩
  replace F := F.trans E
  replace S := S.trans E
  replace ox0 := owns_ext ox0 E
  have zx2 := E.le
  clear E
  go_wp2_with fail
  refine (hI.out x1 x0 _ _ _ _ _ (SlT.of_owns enc4_len e0.out ox0) (SlT.of_owns enc1_len e2.out ox2)).mono ?_
  rintro e w6 ⟨rfl, E⟩
  have zI := E.le
  have zo0 := owns_ge ox0
  have zo2 := owns_ge ox2
  replace F := F.trans E
  replace S := S.trans E
  replace ox0 := owns_ext ox0 E
  replace ox2 := owns_ext ox2 E
  clear E
  go_wp2_with fail
  refine (toBlockS_any _ n0 _ l0 _ (h0.ext F) (by omega)).mono ?_
  rintro e w7 ⟨y0q, rfl, oy0, E⟩
  replace F := F.trans E
  replace S := S.trans E
  replace ox0 := owns_ext ox0 E
  replace ox2 := owns_ext ox2 E
  clear E
  go_wp2_with fail
  refine (eqBlockS_same _ _ _ _ _ l0 _ (SlT.of_owns enc4_len e0.out ox0) (SlT.of_owns enc4_len e0.out oy0) (by omega)).mono ?_
  rintro e w8 ⟨rfl, E⟩
  replace F := F.trans E
  replace S := S.trans E
  replace ox0 := owns_ext ox0 E
  replace ox2 := owns_ext ox2 E
  clear E oy0
  go_wp2_with fail
  refine (toInt64S_any _ n2 _ l2 _ (h2.ext F) (by omega)).mono ?_
  rintro e w9 ⟨y2q, rfl, oy2, E⟩
  replace F := F.trans E
  replace S := S.trans E
  replace ox0 := owns_ext ox0 E
  replace ox2 := owns_ext ox2 E
  clear E
  go_wp2_with fail
  refine (eqInt64S_same _ _ _ _ _ l2 _ (SlT.of_owns enc1_len e2.out ox2) (SlT.of_owns enc1_len e2.out oy2) (by omega)).mono ?_
  rintro e w10 ⟨rfl, E⟩
  replace F := F.trans E
  replace S := S.trans E
  replace ox0 := owns_ext ox0 E
  replace ox2 := owns_ext ox2 E
  clear E oy2
  go_wp2_with fail
  go_ret
  exact ⟨rfl, F⟩
theorem exactIsCompatible_any (q : Option Addr) (n c : Nat) (l : List Q4) (g : Int) (q2 : Option Addr) (n2 c2 : Nat) (l2 : List Int) (w : World) (h : SlT enc4 4 w q n l) (hm : n ≤ maxLen) (h2 : SlT enc1 1 w q2 n2 l2) (hm2 : n2 ≤ maxLen) :
    Calls Try.prog 3 #[.slice q n c, .int .i64 g, .slice q2 n2 c2] w fun e w' => e = .returned (.bool true) ∧ Ext w w' :=
  lawIsCompatible q n c l g q2 n2 c2 l2 (compB l g l2) w h hm h2 hm2 (hid fun hn hn2 W q c q2 c2 hW hW2 => specIsCompatible_any q q2 n n2 c c2 l l2 g W hW hW2 hn hn2) (hid fun hn hn2 W q c q2 c2 hW hW2 => IsCompatible_any q q2 n n2 c c2 l l2 g W hW hW2 hn hn2)
end Go.Proofs.Ytnhiepgfgnemkaa
