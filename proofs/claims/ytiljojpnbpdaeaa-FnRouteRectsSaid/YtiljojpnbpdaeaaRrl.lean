/- The law FnRouteRects returns true at every code. Condition: none but what a slice's length can be. -/
import Derived.Test.YtiljojpnbpdaeaaDpi
import Derived.Test.YtiljojpnbpdaeaaBnq
import Derived.Test.YtiljojpnbpdaeaaIrs2
import Derived.Test.YtiljojpnbpdaeaaOpv
import Derived.Deep.RegionHeld3
import Derived.Deep.AppendLies
namespace Go.Proofs.Ytiljojpnbpdaeaa
open Go.RowKit

set_option maxRecDepth 100000 in
set_option maxHeartbeats 4000000 in
theorem sameRects_any (p1 p2 : Option Addr) (n m k1 k2 : Nat) (l l' : List Q4) (w : World) (h1 : SlT enc4 4 w p1 n l) (h2 : SlT enc4 4 w p2 m l') (hn : n ≤ 1048576) (hm : m ≤ 1048576) :
    Calls Try.prog 24 #[.slice p1 n k1, .slice p2 m k2] w fun e w' => e = .returned (.bool (decide (l = l'))) ∧ Ext w w' := by
  have hl := hid h1.length
  have hl' := hid h2.length
  by_cases hnm : n = m
  · subst hnm
    go_enter Try.func24, Try.ntmps24
    go_wp2
    go_loopw [5] (fun i wr => ∃ k : Nat, k ≤ n ∧ i = .int .i64 k ∧ Hid (SameTo k l l') ∧ Ext w wr) (fun i _ => n - (intOf i).toNat)
    case atStart => exact ⟨0, by omega, rfl, (fun i hi => by omega), Ext.refl _⟩
    case round =>
      obtain ⟨k, hk, rfl, hS, hE⟩ := hrel
      by_cases hlt : k < n
      · obtain ⟨b, off, x, rfl, hb, hx, c0, c1, c2, c3⟩ := (h1.ext hE).four hlt
        obtain ⟨b', off', x', rfl, hb', hx', d0, d1, d2, d3⟩ := (h2.ext hE).four hlt
        have hkI : (k : Int) < n := by omega
        by_cases hxx : x = x'
        · subst hxx
          have hS2 : Hid (SameTo (k + 1) l l') := hS.out.go hx.out hx'.out
          have hxx : Hid (decide (x = x) = true) := by show _ = _; simp
          clear hS
          go_wp2_with fail
          refine wp_region_later (by kernel_rfl) (by kernel_rfl) ?_
          repeat (go_big_quiet_step (fail))
          refine wpQuiet_nil ?_
          rintro w2 ⟨⟨_, E2⟩, rfl⟩
          have hE2 := hid (hE.trans E2)
          clear hE E2 c0 c1 c2 c3 d0 d1 d2 d3
          go_wp2_with fail
          go_roundw
          case rel => exact ⟨k + 1, by omega, by go_num, hS2, hE2.out⟩
          case measure => simp [intOf]; omega
        · have hr : Hid (decide (l = l') = false) := decide_eq_false (differ hx.out hx'.out hxx)
          replace hxx := hid hxx
          clear hS
          go_wp2_with fail
          refine wp_region_later (by kernel_rfl) (by kernel_rfl) ?_
          repeat (go_big_quiet_step (fail))
          go_big_quiet_want
          refine quiet_neq4 _ _ _ rfl x x' rfl rfl true (by rw [show decide (x = x') = false from decide_eq_false hxx.out]; simp) ?_
          go_simp
          go_big_quiet_on
          repeat (go_big_quiet_step (fail))
          refine wpQuiet_nil ?_
          rintro w2 ⟨⟨_, E2⟩, rfl⟩
          have hE2 := hid (hE.trans E2)
          clear hE E2 c0 c1 c2 c3 d0 d1 d2 d3
          go_wp2_with fail
          go_ret
          exact ⟨ret_bool hr.out.symm, hE2.out⟩
      · have hr : Hid (decide (l = l') = true) := decide_eq_true (hS.out.all (by rw [hl.out]; omega) (by rw [hl'.out]; omega))
        have hkI : ¬ (k : Int) < n := by omega
        go_wp2_with fail
        go_ret
        exact ⟨ret_bool hr.out.symm, hE⟩
  · have hr : Hid (decide (l = l') = false) := decide_eq_false (fun e => hnm (by rw [← hl.out, ← hl'.out, e]))
    have hd : ((n : Int) == (m : Int)) = false := by simpa using fun e : (n : Int) = m => hnm (by omega)
    have hd2 : ¬ (n : Int) = m := by omega
    go_enter Try.func24, Try.ntmps24
    go_wp2
    go_ret
    exact ⟨ret_bool hr.out.symm, Ext.refl _⟩
theorem info_RectL : (Try.prog.info? 49).map (fun i => (i.zero, i.size, i.bytes)) = some (some (.agg #[.int .i64 0, .int .i64 0, .int .i64 0, .int .i64 0]), 4, 32) := by kernel_rfl
set_option maxRecDepth 100000 in
set_option maxHeartbeats 1000000 in
theorem RegionOf_ok (q : Option Addr) (n c : Nat) (l : List Q4) (w : World) (h : SlT enc4 4 w q n l) (hn : n ≤ 1048576) (hv : vRs l = true) :
    Calls Try.prog 23 #[.slice q n c] w fun e w' => ∃ (p : Option Addr) (d : Nat), e = .returned (.tuple #[.slice p (canon (gL l)).length d, .bool true]) ∧ w'.ownsRow w.heap.size 49 4 (.slice p (canon (gL l)).length d) (canon (gL l)).length ((canon (gL l)).flatMap enc4) ∧ Ext w w' := by
  have k1 := validRects_any q n c l w h hn
  rw [hv] at k1
  have v1 := hid (fun r hr => vR_near ((vRs_parts hv).2 r hr))
  clear hv
  go_enter Try.func23, Try.ntmps23
  go_wp2_with fail
  refine k1.mono ?_
  clear k1
  rintro e w1 ⟨rfl, E1⟩
  go_wp2_with fail
  refine (cellsOf_any q n c l _ (h.ext E1) hn v1.out).mono ?_
  rintro e w2 ⟨B, rfl, hB, b2, E2⟩
  go_wp2_with fail
  refine (region_any B (gL l) _ b2).mono ?_
  rintro e w3 ⟨p, d, rfl, o3, E3⟩
  go_wp2_with fail
  go_ret2
  exact ⟨p, d, rfl, owns_lowD o3 (E1.trans E2).le, (E1.trans E2).trans E3⟩
set_option maxRecDepth 100000 in
set_option maxHeartbeats 8000000 in
theorem fnRouteRects_any (q : Option Addr) (n c : Nat) (l : List Int) (w : World) (h : SlT encU 1 w q n l) (hu : ∀ x ∈ l, 0 ≤ x ∧ x ≤ 255) (_hm : n ≤ maxLen) :
    Calls Try.prog 5 #[.slice q n c] w fun e w' => e = .returned (.bool true) ∧ Ext w w' := by
  obtain ⟨i0, hi, hz0, hz1, hz2⟩ := info_parts info_RectL
  have hbig := big_any q n c w
  go_enter Try.func5, Try.ntmps5
  by_cases hn : 4096 < (n : Int)
  · rw [decide_eq_true hn] at hbig
    go_wp2_with fail
    refine hbig.mono ?_
    rintro e w' ⟨rfl, rfl⟩
    go_wp2_with fail
    go_ret
    exact ⟨rfl, Ext.refl _⟩
  · rw [decide_eq_false hn] at hbig
    go_wp2_with fail
    refine hbig.mono ?_
    clear hbig
    rintro e w' ⟨rfl, rfl⟩
    go_wp2_with fail
    refine (drawRouteRects_any q n c l _ h hu (by omega)).mono ?_
    rintro e w1 ⟨p, d, ps, rfl, hlen, hs, E1⟩
    clear hu
    obtain ⟨N, hN⟩ : ∃ N, N = ps.length := ⟨_, rfl⟩
    rw [← hN] at hs hlen ⊢
    replace hN := hid hN
    replace hs := hid hs
    replace E1 := hid E1
    go_wp2_with fail
    refine (RouteRects_any p N d ps _ hs.out (by omega)).mono ?_
    rintro e w2 ⟨qr, cr, rfl, or2, E2⟩
    replace hs := hid (hs.out.ext E2)
    replace E1 := hid (E1.out.trans E2)
    clear E2
    cases hrt : isRt [] ps with
    | false =>
      have hlen0 : (rrL ps).length = 0 := by rw [rrL, if_neg (by rw [hrt]; exact Bool.false_ne_true)]; rfl
      rw [hlen0]
      have hcall := specIsRoute_any none 0 0 [] p N d ps w2 (SlT.zero _ _) hs.out (by omega) (by omega)
      rw [hrt] at hcall
      clear hlen0 or2 hrt
      go_wp2_with fail
      refine hcall.mono ?_
      rintro e w3 ⟨rfl, E3⟩
      go_wp2_with fail
      go_ret
      exact ⟨rfl, E1.out.trans E3⟩
    | true =>
      have hrr : rrL ps = pcs ps := by rw [rrL, if_pos hrt]
      rw [hrr] at or2 ⊢
      obtain ⟨v1, v2⟩ := pieces_v hrt (by rw [← hN.out]; exact hlen)
      have hsame := hid (pieces_same hrt)
      have hon := hid (isRt_on hrt)
      have hpl := pcs_len ps
      rw [← hN.out] at hpl
      replace v1 := hid v1
      replace v2 := hid v2
      clear hrr hrt
      have sp := hid (SlT.of_owns enc4_len rfl or2)
      clear or2
      obtain ⟨L, hL⟩ : ∃ L, L = (pcs ps).length := ⟨_, rfl⟩
      rw [← hL] at sp hpl ⊢
      replace hL := hid hL
      have hLI : (L : Int) ≤ N := by omega
      have hNI : (N : Int) ≤ 3003 := by omega
      have ho0 : (w2.alloc (.cells #[] 49)).ownsRow w2.heap.size 49 4 (.slice (some ⟨w2.heap.size, 0, none⟩) 0 0) 0 [] :=
        World.ownsRow_made (base := w2.heap.size) (e := 49) (size := 4) w2 #[] 0 (by simp) (by simp [maxLen]) (by simp)
      go_wp2_with fail
      go_loopw [6, 7] (fun v i wr => ∃ k : Nat, k ≤ N ∧ i = .int .i64 k ∧ Ext w2 wr ∧ wr.ownsRow w2.heap.size 49 4 v k (((ps.take k).map uQ).flatMap enc4)) (fun _ i _ => N - (intOf i).toNat)
      case atStart => exact ⟨0, by omega, rfl, (Ext.refl _).alloc _, by simpa using ho0⟩
      case round =>
        clear ho0
        obtain ⟨k, hk, rfl, hX, ho⟩ := hrel
        by_cases hkN : k < N
        · obtain ⟨qv, cv, rfl⟩ := owns_forms ho
          obtain ⟨bp, op, x, rfl, hbp0, hx, c0', c1'⟩ := hs.out.two hkN
          have hxo := onC_iff.1 (hon.out x (List.mem_of_getElem? hx.out))
          have hkI : (k : Int) < N := by omega
          have hsn : Hid (((ps.take (k + 1)).map uQ).flatMap enc4 = ((ps.take k).map uQ).flatMap enc4 ++ [.int .i64 x.a, .int .i64 x.b, .int .i64 (x.a + 1), .int .i64 (x.b + 1)]) := by
            show _ = _
            rw [take_snoc hx.out, List.map_append, List.flatMap_append]; rfl
          have hbp : bp < wr.heap.size := Nat.lt_of_lt_of_le hbp0 hX.le
          have e0 := (hX.cells _ _ hbp0).trans c0'
          have e1 := (hX.cells _ _ hbp0).trans c1'
          have hbase : w2.heap.size ≤ (wr.alloc (.cells #[.int .i64 x.a, .int .i64 x.b, .int .i64 (x.a + 1), .int .i64 (x.b + 1)] 49)).heap.size := (hX.alloc _).le
          have A0 := ((Ext.refl wr).alloc (.cells #[.int .i64 x.a, .int .i64 x.b, .int .i64 (x.a + 1), .int .i64 (x.b + 1)] 49)).drew
          have q0 := (A0.cells _ _ hbp).trans e0
          have q1 := (A0.cells _ _ hbp).trans e1
          have nb1 := hid (Nat.lt_of_lt_of_le hbp A0.le)
          have ne1 := hid (show ∀ b, b < w2.heap.size → Value.ownBlock (.slice qv k cv) ≠ some b from fun b hb hh => by have := (ho.lt b hh).1; omega)
          have hbp0 := hid hbp0
          have hw1 : IntKind.i64.wrap (x.a + 1) = x.a + 1 := IntWalk.i64_in _ (by omega)
          have hw2 : IntKind.i64.wrap (x.b + 1) = x.b + 1 := IntWalk.i64_in _ (by omega)
          obtain ⟨⟨xa0, xa1⟩, xb0, xb1⟩ := hxo
          clear A0 c0' c1'
          go_wp2_with fail
          go_region_held3 (fun w' => w'.cell? ⟨bp, op + k * 2, none⟩ = some (.int .i64 x.a) ∧ w'.cell? ⟨bp, op + k * 2 + 1, none⟩ = some (.int .i64 x.b)) (first | exact ⟨e0, e1⟩ | exact ⟨q0, q1⟩ | exact ⟨(grown_cell hgA nb1.out (ne1.out _ hbp0.out) _).trans q0, (grown_cell hgA nb1.out (ne1.out _ hbp0.out) _).trans q1⟩) ((refine step_append_lies _ rfl _ _ 42 rfl w2.heap.size 49 i0 _ 4 32 Try.underlying42 hi hz0 hz1 hz2 rfl (by omega) _ _ _ rfl (ho.alloc _).drew ⟨wr.heap.size, 0, none⟩ 1 1 [.int .i64 x.a, .int .i64 x.b, .int .i64 (x.a + 1), .int .i64 (x.b + 1)] rfl rfl (cells_newd _ _ _) (one_int4 _ _ _ _) (by omega) (len_le (by omega) (by omega)) (by omega) hbase _ rfl ?_; intro gL cL wA hoA hgA hbA hlA))
          go_wp2_with fail
          go_roundw
          case rel =>
            refine ⟨k + 1, by omega, by go_num, (hX.alloc (.cells #[.int .i64 x.a, .int .i64 x.b, .int .i64 (x.a + 1), .int .i64 (x.b + 1)] 49)).drew.grown hgA (fun b hb => (ho.lt b hb).1), ?_⟩
            rw [hsn.out]; exact hoA
          case measure => simp [intOf]; omega
        · obtain rfl : k = N := by omega
          have hml : Hid ((ps.map uQ).length = k) := by show _ = _; rw [List.length_map, ← hN.out]
          have htk : Hid (ps.take k = ps) := take_all hN.out.symm (Nat.le_refl _)
          rw [htk.out] at ho
          obtain ⟨qv, cv, rfl⟩ := owns_forms ho
          have sv := SlT.of_owns enc4_len hml.out ho
          have sp2 := hid (sp.out.ext hX)
          have E1X := hid (E1.out.trans hX)
          clear ho
          go_wp2_with fail
          refine (RegionOf_ok qv k cv (ps.map uQ) _ sv (by omega) v1.out).mono ?_
          rw [hsame.out]
          rintro e w3 ⟨pa, da, rfl, oa, E3⟩
          have hca := canon_len (gL (pcs ps))
          have sa := SlT.of_owns enc4_len rfl oa
          generalize hC : canon (gL (pcs ps)) = C at hca sa
          obtain ⟨M, hM⟩ : ∃ M, M = C.length := ⟨_, rfl⟩
          clear oa
          rw [← hM] at hca sa ⊢
          have hMI : (M : Int) ≤ 3200 := by omega
          replace hM := hid hM
          replace hC := hid hC
          go_wp2_with fail
          refine (RegionOf_ok qr L cr (pcs ps) _ (sp2.out.ext E3) (by omega) v2.out).mono ?_
          rw [hC.out, ← hM.out]
          rintro e w4 ⟨pb, db, rfl, ob, E4⟩
          have sb := SlT.of_owns enc4_len hM.out.symm ob
          clear ob
          have hcall := hid (sameRects_any pa pb M M da db C C w4 (sa.ext E4) sb (by omega) (by omega))
          have htt : decide (C = C) = true := by simp
          rw [htt] at hcall
          clear htt
          go_wp2_with (go_at_call 24; refine hcall.out.mono ?_; rintro e w5 ⟨rfl, E5⟩)
          go_ret
          exact ⟨rfl, E1X.out.trans (E3.trans (E4.trans E5))⟩
end Go.Proofs.Ytiljojpnbpdaeaa
