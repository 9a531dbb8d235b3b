/- Contract of ShortestRoute (reference). Condition: at most 2^20 rectangles. -/
import Derived.Test.YtiljojpnbpdaeaaSpo
namespace Go.Proofs.Ytiljojpnbpdaeaa
open Go.RowKit Go.Maps
set_option maxRecDepth 100000 in
set_option maxHeartbeats 40000000 in
theorem specShortestRoute_any (q : Option Addr) (n c : Nat) (l : List Q4) (a b : Q2) (w : World) (h : SlT enc4 4 w q n l) (hn : n ≤ 1048576) :
    Calls Try.prog 80 #[.slice q n c, .agg #[.int .i64 a.a, .int .i64 a.b], .agg #[.int .i64 b.a, .int .i64 b.b]] w (RouteR l a b w) := by
  have hc1 := fun W (hW : Ext w W) => l03Ok_any q n c l W (h.ext hW) hn
  have hua := fun W => l09Unit_any a.a a.b W
  have hub := fun W => l09Unit_any b.a b.b W
  cases h1 : isReg l with
  | false =>
    have hr : Hid (srC l a b = 1) := by show _ = _; rw [srC, h1]; rfl
    rw [h1] at hc1
    replace hc1 := hid hc1
    replace hua := hid hua
    replace hub := hid hub
    clear h1
    go_enter Try.func80, Try.ntmps80
    go_wp2_with fail
    generalize hW : (w.alloc _).alloc _ = W0
    obtain ⟨E0, z0, bA, bB⟩ := boxes2 hW
    clear hW
    have hA := hid (show Blk W0 w.heap.size [.int .i64 a.a, .int .i64 a.b] _ from bA)
    have hB := hid (show Blk W0 (w.heap.size + 1) [.int .i64 b.a, .int .i64 b.b] _ from bB)
    clear bA bB
    replace z0 := hid z0
    refine (hc1.out _ E0).mono ?_
    rintro e w1 ⟨rfl, E1⟩
    go_wp2_with fail
    go_ret2
    exact sr_none hr.out (by omega) (E0.trans E1)
  | true =>
    have hvs := hid (vRs_parts (isReg_iff.1 h1).1).2
    rw [h1] at hc1
    cases h2 : onC a.a a.b with
    | false =>
      have hr : Hid (srC l a b = 1) := by show _ = _; rw [srC, h1, h2]; rfl
      rw [h2] at hua
      replace hc1 := hid hc1
      replace hua := hid hua
      replace hub := hid hub
      clear h1 h2
      go_enter Try.func80, Try.ntmps80
      go_wp2_with fail
      generalize hW : (w.alloc _).alloc _ = W0
      obtain ⟨E0, z0, bA, bB⟩ := boxes2 hW
      clear hW
      have hA := hid (show Blk W0 w.heap.size [.int .i64 a.a, .int .i64 a.b] _ from bA)
      have hB := hid (show Blk W0 (w.heap.size + 1) [.int .i64 b.a, .int .i64 b.b] _ from bB)
      clear bA bB
      replace z0 := hid z0
      refine (hc1.out _ E0).mono ?_
      rintro e w1 ⟨rfl, E1⟩
      have gA := (hA.out.ext (E1)).cells
      have gB := (hB.out.ext (E1)).cells
      have a0 := gA 0
      have a1 := gA 1
      have b0 := gB 0
      have b1 := gB 1
      simp only [List.getElem?_cons_zero, List.getElem?_cons_succ] at a0 a1 b0 b1
      have hlA := (hA.out.ext (E1)).lt
      have hlB := (hB.out.ext (E1)).lt
      clear gA gB
      go_wp2_with fail
      refine (hua.out _).mono ?_
      rintro e w2 ⟨rfl, E2⟩
      replace E2 := E1.trans E2
      clear a0 a1 b0 b1 hlA hlB
      go_wp2_with fail
      go_ret2
      exact sr_none hr.out (by omega) (E0.trans E2)
    | true =>
      rw [h2] at hua
      have hoa := hid h2
      cases h3 : onC b.a b.b with
      | false =>
        have hr : Hid (srC l a b = 1) := by show _ = _; rw [srC, h1, h2, h3]; rfl
        rw [h3] at hub
        replace hc1 := hid hc1
        replace hua := hid hua
        replace hub := hid hub
        clear h1 h2 h3
        go_enter Try.func80, Try.ntmps80
        go_wp2_with fail
        generalize hW : (w.alloc _).alloc _ = W0
        obtain ⟨E0, z0, bA, bB⟩ := boxes2 hW
        clear hW
        have hA := hid (show Blk W0 w.heap.size [.int .i64 a.a, .int .i64 a.b] _ from bA)
        have hB := hid (show Blk W0 (w.heap.size + 1) [.int .i64 b.a, .int .i64 b.b] _ from bB)
        clear bA bB
        replace z0 := hid z0
        refine (hc1.out _ E0).mono ?_
        rintro e w1 ⟨rfl, E1⟩
        have gA := (hA.out.ext (E1)).cells
        have gB := (hB.out.ext (E1)).cells
        have a0 := gA 0
        have a1 := gA 1
        have b0 := gB 0
        have b1 := gB 1
        simp only [List.getElem?_cons_zero, List.getElem?_cons_succ] at a0 a1 b0 b1
        have hlA := (hA.out.ext (E1)).lt
        have hlB := (hB.out.ext (E1)).lt
        clear gA gB
        go_wp2_with fail
        refine (hua.out _).mono ?_
        rintro e w2 ⟨rfl, E2⟩
        replace E2 := E1.trans E2
        clear a0 a1 b0 b1 hlA hlB
        have gA := (hA.out.ext (E2)).cells
        have gB := (hB.out.ext (E2)).cells
        have a0 := gA 0
        have a1 := gA 1
        have b0 := gB 0
        have b1 := gB 1
        simp only [List.getElem?_cons_zero, List.getElem?_cons_succ] at a0 a1 b0 b1
        have hlA := (hA.out.ext (E2)).lt
        have hlB := (hB.out.ext (E2)).lt
        clear gA gB
        go_wp2_with fail
        refine (hub.out _).mono ?_
        rintro e w3 ⟨rfl, E3⟩
        replace E3 := E2.trans E3
        clear a0 a1 b0 b1 hlA hlB
        go_wp2_with fail
        go_ret2
        exact sr_none hr.out (by omega) (E0.trans E3)
      | true =>
        rw [h3] at hub
        have hob := hid h3
        cases h4 : gh (gL l) a.a a.b with
        | true =>
          have hr : Hid (srC l a b = 6) := by show _ = _; rw [srC, h1, h2, h3, h4]; rfl
          have hga := hid h4
          replace hc1 := hid hc1
          replace hua := hid hua
          replace hub := hid hub
          clear h1 h2 h3 h4
          go_enter Try.func80, Try.ntmps80
          go_wp2_with fail
          generalize hW : (w.alloc _).alloc _ = W0
          obtain ⟨E0, z0, bA, bB⟩ := boxes2 hW
          clear hW
          have hA := hid (show Blk W0 w.heap.size [.int .i64 a.a, .int .i64 a.b] _ from bA)
          have hB := hid (show Blk W0 (w.heap.size + 1) [.int .i64 b.a, .int .i64 b.b] _ from bB)
          clear bA bB
          replace z0 := hid z0
          refine (hc1.out _ E0).mono ?_
          rintro e w1 ⟨rfl, E1⟩
          have gA := (hA.out.ext (E1)).cells
          have gB := (hB.out.ext (E1)).cells
          have a0 := gA 0
          have a1 := gA 1
          have b0 := gB 0
          have b1 := gB 1
          simp only [List.getElem?_cons_zero, List.getElem?_cons_succ] at a0 a1 b0 b1
          have hlA := (hA.out.ext (E1)).lt
          have hlB := (hB.out.ext (E1)).lt
          clear gA gB
          go_wp2_with fail
          refine (hua.out _).mono ?_
          rintro e w2 ⟨rfl, E2⟩
          replace E2 := E1.trans E2
          clear a0 a1 b0 b1 hlA hlB
          have gA := (hA.out.ext (E2)).cells
          have gB := (hB.out.ext (E2)).cells
          have a0 := gA 0
          have a1 := gA 1
          have b0 := gB 0
          have b1 := gB 1
          simp only [List.getElem?_cons_zero, List.getElem?_cons_succ] at a0 a1 b0 b1
          have hlA := (hA.out.ext (E2)).lt
          have hlB := (hB.out.ext (E2)).lt
          clear gA gB
          go_wp2_with fail
          refine (hub.out _).mono ?_
          rintro e w3 ⟨rfl, E3⟩
          replace E3 := E2.trans E3
          clear a0 a1 b0 b1 hlA hlB
          go_wp2_with fail
          refine (l03Bits_any q n c l _ (h.ext (E0.trans E3)) hn hvs.out).mono ?_
          rintro e w4 ⟨B, rfl, ob, E4⟩
          have hbk := hid (Bits.of ob)
          replace E4 := E3.trans E4
          clear ob
          have za := hbk.out.2 _ (atG_lt hoa.out)
          have zb := hbk.out.2 _ (atG_lt hob.out)
          rw [← gh_on (g := gL l) hoa.out] at za
          rw [← gh_on (g := gL l) hob.out] at zb
          rw [hga.out] at za
          have hBlk := hbk.out.1
          have hta := atG_lt hoa.out
          have htb := atG_lt hob.out
          have htaI : (atG a.a a.b : Int) < 6400 := by omega
          have htbI : (atG b.a b.b : Int) < 6400 := by omega
          have gA := (hA.out.ext (E4)).cells
          have gB := (hB.out.ext (E4)).cells
          have a0 := gA 0
          have a1 := gA 1
          have b0 := gB 0
          have b1 := gB 1
          simp only [List.getElem?_cons_zero, List.getElem?_cons_succ] at a0 a1 b0 b1
          have hlA := (hA.out.ext (E4)).lt
          have hlB := (hB.out.ext (E4)).lt
          clear gA gB
          go_wp2_with (go_at_call 54; (first | (refine (l03At_any a.a a.b _ hoa.out).mono ?_) | (refine (l03At_any b.a b.b _ hob.out).mono ?_)); rintro e w' ⟨rfl, rfl⟩)
          go_ret2
          exact sr_none hr.out (by omega) (E0.trans E4)
        | false =>
          have hga := hid h4
          cases h5 : gh (gL l) b.a b.b with
          | true =>
            have hr : Hid (srC l a b = 6) := by show _ = _; rw [srC, h1, h2, h3, h4, h5]; rfl
            have hgb := hid h5
            replace hc1 := hid hc1
            replace hua := hid hua
            replace hub := hid hub
            clear h1 h2 h3 h4 h5
            go_enter Try.func80, Try.ntmps80
            go_wp2_with fail
            generalize hW : (w.alloc _).alloc _ = W0
            obtain ⟨E0, z0, bA, bB⟩ := boxes2 hW
            clear hW
            have hA := hid (show Blk W0 w.heap.size [.int .i64 a.a, .int .i64 a.b] _ from bA)
            have hB := hid (show Blk W0 (w.heap.size + 1) [.int .i64 b.a, .int .i64 b.b] _ from bB)
            clear bA bB
            replace z0 := hid z0
            refine (hc1.out _ E0).mono ?_
            rintro e w1 ⟨rfl, E1⟩
            have gA := (hA.out.ext (E1)).cells
            have gB := (hB.out.ext (E1)).cells
            have a0 := gA 0
            have a1 := gA 1
            have b0 := gB 0
            have b1 := gB 1
            simp only [List.getElem?_cons_zero, List.getElem?_cons_succ] at a0 a1 b0 b1
            have hlA := (hA.out.ext (E1)).lt
            have hlB := (hB.out.ext (E1)).lt
            clear gA gB
            go_wp2_with fail
            refine (hua.out _).mono ?_
            rintro e w2 ⟨rfl, E2⟩
            replace E2 := E1.trans E2
            clear a0 a1 b0 b1 hlA hlB
            have gA := (hA.out.ext (E2)).cells
            have gB := (hB.out.ext (E2)).cells
            have a0 := gA 0
            have a1 := gA 1
            have b0 := gB 0
            have b1 := gB 1
            simp only [List.getElem?_cons_zero, List.getElem?_cons_succ] at a0 a1 b0 b1
            have hlA := (hA.out.ext (E2)).lt
            have hlB := (hB.out.ext (E2)).lt
            clear gA gB
            go_wp2_with fail
            refine (hub.out _).mono ?_
            rintro e w3 ⟨rfl, E3⟩
            replace E3 := E2.trans E3
            clear a0 a1 b0 b1 hlA hlB
            go_wp2_with fail
            refine (l03Bits_any q n c l _ (h.ext (E0.trans E3)) hn hvs.out).mono ?_
            rintro e w4 ⟨B, rfl, ob, E4⟩
            have hbk := hid (Bits.of ob)
            replace E4 := E3.trans E4
            clear ob
            have za := hbk.out.2 _ (atG_lt hoa.out)
            have zb := hbk.out.2 _ (atG_lt hob.out)
            rw [← gh_on (g := gL l) hoa.out] at za
            rw [← gh_on (g := gL l) hob.out] at zb
            rw [hga.out] at za
            have hBlk := hbk.out.1
            have hta := atG_lt hoa.out
            have htb := atG_lt hob.out
            have htaI : (atG a.a a.b : Int) < 6400 := by omega
            have htbI : (atG b.a b.b : Int) < 6400 := by omega
            have gA := (hA.out.ext (E4)).cells
            have gB := (hB.out.ext (E4)).cells
            have a0 := gA 0
            have a1 := gA 1
            have b0 := gB 0
            have b1 := gB 1
            simp only [List.getElem?_cons_zero, List.getElem?_cons_succ] at a0 a1 b0 b1
            have hlA := (hA.out.ext (E4)).lt
            have hlB := (hB.out.ext (E4)).lt
            clear gA gB
            rw [hgb.out] at zb
            go_wp2_with (go_at_call 54; (first | (refine (l03At_any a.a a.b _ hoa.out).mono ?_) | (refine (l03At_any b.a b.b _ hob.out).mono ?_)); rintro e w' ⟨rfl, rfl⟩)
            go_ret2
            exact sr_none hr.out (by omega) (E0.trans E4)
          | false =>
            have hgb := hid h5
            by_cases h6 : (bfs (gL l) b).1 a < 0
            · have hr : Hid (srC l a b = 5) := by show _ = _; rw [srC, h1, h2, h3, h4, h5, if_neg (by simp), if_neg (by simp), if_pos h6]
              have hbda := (inv_bfs (g := gL l) hob.out).bd a
              replace hc1 := hid hc1
              replace hua := hid hua
              replace hub := hid hub
              clear h1 h2 h3 h4 h5
              go_enter Try.func80, Try.ntmps80
              go_wp2_with fail
              generalize hW : (w.alloc _).alloc _ = W0
              obtain ⟨E0, z0, bA, bB⟩ := boxes2 hW
              clear hW
              have hA := hid (show Blk W0 w.heap.size [.int .i64 a.a, .int .i64 a.b] _ from bA)
              have hB := hid (show Blk W0 (w.heap.size + 1) [.int .i64 b.a, .int .i64 b.b] _ from bB)
              clear bA bB
              replace z0 := hid z0
              refine (hc1.out _ E0).mono ?_
              rintro e w1 ⟨rfl, E1⟩
              have gA := (hA.out.ext (E1)).cells
              have gB := (hB.out.ext (E1)).cells
              have a0 := gA 0
              have a1 := gA 1
              have b0 := gB 0
              have b1 := gB 1
              simp only [List.getElem?_cons_zero, List.getElem?_cons_succ] at a0 a1 b0 b1
              have hlA := (hA.out.ext (E1)).lt
              have hlB := (hB.out.ext (E1)).lt
              clear gA gB
              go_wp2_with fail
              refine (hua.out _).mono ?_
              rintro e w2 ⟨rfl, E2⟩
              replace E2 := E1.trans E2
              clear a0 a1 b0 b1 hlA hlB
              have gA := (hA.out.ext (E2)).cells
              have gB := (hB.out.ext (E2)).cells
              have a0 := gA 0
              have a1 := gA 1
              have b0 := gB 0
              have b1 := gB 1
              simp only [List.getElem?_cons_zero, List.getElem?_cons_succ] at a0 a1 b0 b1
              have hlA := (hA.out.ext (E2)).lt
              have hlB := (hB.out.ext (E2)).lt
              clear gA gB
              go_wp2_with fail
              refine (hub.out _).mono ?_
              rintro e w3 ⟨rfl, E3⟩
              replace E3 := E2.trans E3
              clear a0 a1 b0 b1 hlA hlB
              go_wp2_with fail
              refine (l03Bits_any q n c l _ (h.ext (E0.trans E3)) hn hvs.out).mono ?_
              rintro e w4 ⟨B, rfl, ob, E4⟩
              have hbk := hid (Bits.of ob)
              replace E4 := E3.trans E4
              clear ob
              have za := hbk.out.2 _ (atG_lt hoa.out)
              have zb := hbk.out.2 _ (atG_lt hob.out)
              rw [← gh_on (g := gL l) hoa.out] at za
              rw [← gh_on (g := gL l) hob.out] at zb
              rw [hga.out] at za
              have hBlk := hbk.out.1
              have hta := atG_lt hoa.out
              have htb := atG_lt hob.out
              have htaI : (atG a.a a.b : Int) < 6400 := by omega
              have htbI : (atG b.a b.b : Int) < 6400 := by omega
              have gA := (hA.out.ext (E4)).cells
              have gB := (hB.out.ext (E4)).cells
              have a0 := gA 0
              have a1 := gA 1
              have b0 := gB 0
              have b1 := gB 1
              simp only [List.getElem?_cons_zero, List.getElem?_cons_succ] at a0 a1 b0 b1
              have hlA := (hA.out.ext (E4)).lt
              have hlB := (hB.out.ext (E4)).lt
              clear gA gB
              rw [hgb.out] at zb
              go_wp2_with (go_at_call 54; (first | (refine (l03At_any a.a a.b _ hoa.out).mono ?_) | (refine (l03At_any b.a b.b _ hob.out).mono ?_)); rintro e w' ⟨rfl, rfl⟩)
              refine (l32Distances_any B _ (gL l) b _ hbk.out hob.out).mono ?_
              rintro e w7 ⟨DB, rfl, od, E7⟩
              rw [distF, if_neg (by rw [hgb.out]; simp)] at od
              have zd := od.cellAt (atG a.a a.b) (by omega)
              rw [dcells_get _ hoa.out] at zd
              have hDBl := (owns_lt od).2
              replace od := hid od
              replace E7 := E4.trans E7
              clear za zb hBlk
              clear a0 a1 b0 b1 hlA hlB
              have gA := (hA.out.ext (E7)).cells
              have gB := (hB.out.ext (E7)).cells
              have a0 := gA 0
              have a1 := gA 1
              have b0 := gB 0
              have b1 := gB 1
              simp only [List.getElem?_cons_zero, List.getElem?_cons_succ] at a0 a1 b0 b1
              have hlA := (hA.out.ext (E7)).lt
              have hlB := (hB.out.ext (E7)).lt
              clear gA gB
              go_wp2_with (go_at_call 54; (first | (refine (l03At_any a.a a.b _ hoa.out).mono ?_) | (refine (l03At_any b.a b.b _ hob.out).mono ?_)); rintro e w' ⟨rfl, rfl⟩)
              go_ret2
              exact sr_none hr.out (by omega) (E0.trans E7)
            · exact spec_sr_ok q n c l a b w h hn h1 h2 h3 h4 h5 h6
end Go.Proofs.Ytiljojpnbpdaeaa
