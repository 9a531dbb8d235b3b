/- Contract of ShortestRoute (program). Condition: at most 2^20 rectangles. -/
import Derived.Test.YthdilndfcdpeiaaDis
import Derived.Test.YthdilndfcdpeiaaBf2
namespace Go.Proofs.Ythdilndfcdpeiaa
open Go.RowKit Go.Maps

/-- The code of ShortestRoute. -/
def srC (l : List Q4) (a b : Q2) : Int := if (isReg l && onC a.a a.b && onC b.a b.b) = false then 1 else if (gh (gL l) a.a a.b || gh (gL l) b.a b.b) = true then 6 else if (bfs (gL l) b).1 a < 0 then 5 else 0
/-- Its route. -/
def srL (l : List Q4) (a b : Q2) : List Q2 := if srC l a b = 0 then pathN (bfs (gL l) b).1 ((bfs (gL l) b).1 a).toNat a else []
/-- What it leaves. -/
def RouteR (l : List Q4) (a b : Q2) (w : World) (e : Ending) (w' : World) : Prop := ∃ p d, e = .returned (.tuple #[.slice p (srL l a b).length d, .int .i64 (srC l a b)]) ∧ w'.ownsRow w.heap.size 26 2 (.slice p (srL l a b).length d) (srL l a b).length ((srL l a b).flatMap enc2) ∧ Ext w w'
theorem sr_none {l : List Q4} {a b : Q2} {c : Int} {w w' : World} (h : srC l a b = c) (hc : c ≠ 0) (hE : Ext w w') : RouteR l a b w (.returned (.tuple #[.slice none 0 0, .int .i64 c])) w' := by
  refine ⟨none, 0, ?_, ?_, hE⟩
  · rw [srL, h, if_neg hc]; rfl
  · rw [srL, h, if_neg hc]; exact World.ownsRow_nil _ _ _ _
theorem pathN_head (D : Q2 → Int) (n : Nat) (a : Q2) : pathN D n a = a :: (pathN D n a).tail := by cases n <;> rfl
theorem path_go {D : Q2 → Int} {k : Nat} {cur q : Q2} {out P : List Q2} (h : out ++ (pathN D (k + 1) cur).tail = P) (hq : nextP D cur = q) : (out ++ [q]) ++ (pathN D k q).tail = P := by
  rw [← h, pathN, hq, List.tail_cons, pathN_head D k q]; simp
/-- What holds while the route is built. -/
def Going (D : Q2 → Int) (P : List Q2) (w7 : World) (v u : Value) (wr : World) : Prop := ∃ (pa m : Nat) (cur : Q2) (out : List Q2) (q : Option Addr) (c : Nat), v = .slice q out.length c ∧ u = .pointer (some ⟨pa, 0, none⟩) ∧ Blk wr pa [.int .i64 cur.a, .int .i64 cur.b] 26 ∧ Hid (onC cur.a cur.b = true ∧ D cur = m ∧ out ++ (pathN D m cur).tail = P) ∧
  wr.ownsRow w7.heap.size 26 2 (.slice q out.length c) out.length (out.flatMap enc2) ∧ Value.ownBlock (.slice q out.length c) ≠ some pa ∧ w7.heap.size ≤ pa ∧ Ext w7 wr
/-- How far the route has come. -/
def lenOf (v : Value) : Nat := match v with | .slice _ n _ => n | _ => 0
theorem srL_len (l : List Q4) (a b : Q2) : (srL l a b).length ≤ 6401 := by
  rw [srL]
  split
  · rename_i h
    have hb : onC b.a b.b = true := by
      rw [srC] at h
      cases hb : onC b.a b.b with
      | true => rfl
      | false => rw [hb, Bool.and_false, if_pos rfl] at h; omega
    have h1 := (inv_bfs (g := gL l) hb).bd a
    have h2 := (inv_bfs (g := gL l) hb).len
    rw [pathN_len]; omega
  · simp
set_option maxRecDepth 100000 in
set_option maxHeartbeats 8000000 in
theorem ShortestRoute_any (q : Option Addr) (n c : Nat) (l : List Q4) (a b : Q2) (w : World) (h : SlT enc4 4 w q n l) (hn : n ≤ 1048576) :
    Calls Try.prog 17 #[.slice q n c, .agg #[.int .i64 a.a, .int .i64 a.b], .agg #[.int .i64 b.a, .int .i64 b.b]] w (RouteR l a b w) := by
  obtain ⟨i0, hi, hz0, hz1, hz2⟩ := info_parts info_Pt
  have hc1 := fun W (hW : Ext w W) => IsRegion_any q n c l W (h.ext hW) hn
  have hua := fun W => isUnitCell_any a.a a.b W
  have hub := fun W => isUnitCell_any b.a b.b W
  have hga := fun B W (hW : Blk W B (gcells (gL l)) 99) => has_any B (gL l) a.a a.b W hW
  have hgb := fun B W (hW : Blk W B (gcells (gL l)) 99) => has_any B (gL l) b.a b.b W hW
  cases h1 : isReg l with
  | false =>
    have hr : Hid (srC l a b = 1) := by show _ = _; rw [srC, h1]; rfl
    rw [h1] at hc1
    replace hc1 := hid hc1
    replace hua := hid hua
    replace hub := hid hub
    replace hga := hid hga
    replace hgb := hid hgb
    clear h1
    go_enter Try.func17, Try.ntmps17
    go_wp2_with fail
    generalize hW : (w.alloc _).alloc _ = W0
    obtain ⟨E0, z0, bA, bB⟩ := boxes2 hW
    clear hW
    have hA := hid (show Blk W0 w.heap.size [.int .i64 a.a, .int .i64 a.b] _ from bA)
    have hB := hid (show Blk W0 (w.heap.size + 1) [.int .i64 b.a, .int .i64 b.b] _ from bB)
    clear bA bB
    replace z0 := hid z0
    refine (hc1.out _ E0).mono ?_
    rintro e w1 ⟨rfl, E1⟩
    go_wp2_with fail
    go_ret2
    exact sr_none hr.out (by omega) (E0.trans E1)
  | true =>
    have hvs := hid (vRs_parts (isReg_iff.1 h1).1).2
    rw [h1] at hc1
    cases h2 : onC a.a a.b with
    | false =>
      have hr : Hid (srC l a b = 1) := by show _ = _; rw [srC, h1, h2]; rfl
      rw [h2] at hua
      replace hc1 := hid hc1
      replace hua := hid hua
      replace hub := hid hub
      replace hga := hid hga
      replace hgb := hid hgb
      clear h1 h2
      go_enter Try.func17, Try.ntmps17
      go_wp2_with fail
      generalize hW : (w.alloc _).alloc _ = W0
      obtain ⟨E0, z0, bA, bB⟩ := boxes2 hW
      clear hW
      have hA := hid (show Blk W0 w.heap.size [.int .i64 a.a, .int .i64 a.b] _ from bA)
      have hB := hid (show Blk W0 (w.heap.size + 1) [.int .i64 b.a, .int .i64 b.b] _ from bB)
      clear bA bB
      replace z0 := hid z0
      refine (hc1.out _ E0).mono ?_
      rintro e w1 ⟨rfl, E1⟩
      have gA := (hA.out.ext (E1)).cells
      have gB := (hB.out.ext (E1)).cells
      have a0 := gA 0
      have a1 := gA 1
      have b0 := gB 0
      have b1 := gB 1
      simp only [List.getElem?_cons_zero, List.getElem?_cons_succ] at a0 a1 b0 b1
      have hlA := (hA.out.ext (E1)).lt
      have hlB := (hB.out.ext (E1)).lt
      clear gA gB
      go_wp2_with fail
      refine (hua.out _).mono ?_
      rintro e w2 ⟨rfl, E2⟩
      replace E2 := E1.trans E2
      clear a0 a1 b0 b1 hlA hlB
      go_wp2_with fail
      go_ret2
      exact sr_none hr.out (by omega) (E0.trans E2)
    | true =>
      rw [h2] at hua
      have hoa := hid h2
      cases h3 : onC b.a b.b with
      | false =>
        have hr : Hid (srC l a b = 1) := by show _ = _; rw [srC, h1, h2, h3]; rfl
        rw [h3] at hub
        replace hc1 := hid hc1
        replace hua := hid hua
        replace hub := hid hub
        replace hga := hid hga
        replace hgb := hid hgb
        clear h1 h2 h3
        go_enter Try.func17, Try.ntmps17
        go_wp2_with fail
        generalize hW : (w.alloc _).alloc _ = W0
        obtain ⟨E0, z0, bA, bB⟩ := boxes2 hW
        clear hW
        have hA := hid (show Blk W0 w.heap.size [.int .i64 a.a, .int .i64 a.b] _ from bA)
        have hB := hid (show Blk W0 (w.heap.size + 1) [.int .i64 b.a, .int .i64 b.b] _ from bB)
        clear bA bB
        replace z0 := hid z0
        refine (hc1.out _ E0).mono ?_
        rintro e w1 ⟨rfl, E1⟩
        have gA := (hA.out.ext (E1)).cells
        have gB := (hB.out.ext (E1)).cells
        have a0 := gA 0
        have a1 := gA 1
        have b0 := gB 0
        have b1 := gB 1
        simp only [List.getElem?_cons_zero, List.getElem?_cons_succ] at a0 a1 b0 b1
        have hlA := (hA.out.ext (E1)).lt
        have hlB := (hB.out.ext (E1)).lt
        clear gA gB
        go_wp2_with fail
        refine (hua.out _).mono ?_
        rintro e w2 ⟨rfl, E2⟩
        replace E2 := E1.trans E2
        clear a0 a1 b0 b1 hlA hlB
        have gA := (hA.out.ext (E2)).cells
        have gB := (hB.out.ext (E2)).cells
        have a0 := gA 0
        have a1 := gA 1
        have b0 := gB 0
        have b1 := gB 1
        simp only [List.getElem?_cons_zero, List.getElem?_cons_succ] at a0 a1 b0 b1
        have hlA := (hA.out.ext (E2)).lt
        have hlB := (hB.out.ext (E2)).lt
        clear gA gB
        go_wp2_with fail
        refine (hub.out _).mono ?_
        rintro e w3 ⟨rfl, E3⟩
        replace E3 := E2.trans E3
        clear a0 a1 b0 b1 hlA hlB
        go_wp2_with fail
        go_ret2
        exact sr_none hr.out (by omega) (E0.trans E3)
      | true =>
        rw [h3] at hub
        have hob := hid h3
        cases h4 : gh (gL l) a.a a.b with
        | true =>
          have hr : Hid (srC l a b = 6) := by show _ = _; rw [srC, h1, h2, h3, h4]; rfl
          rw [h4] at hga
          replace hc1 := hid hc1
          replace hua := hid hua
          replace hub := hid hub
          replace hga := hid hga
          replace hgb := hid hgb
          clear h1 h2 h3 h4
          go_enter Try.func17, Try.ntmps17
          go_wp2_with fail
          generalize hW : (w.alloc _).alloc _ = W0
          obtain ⟨E0, z0, bA, bB⟩ := boxes2 hW
          clear hW
          have hA := hid (show Blk W0 w.heap.size [.int .i64 a.a, .int .i64 a.b] _ from bA)
          have hB := hid (show Blk W0 (w.heap.size + 1) [.int .i64 b.a, .int .i64 b.b] _ from bB)
          clear bA bB
          replace z0 := hid z0
          refine (hc1.out _ E0).mono ?_
          rintro e w1 ⟨rfl, E1⟩
          have gA := (hA.out.ext (E1)).cells
          have gB := (hB.out.ext (E1)).cells
          have a0 := gA 0
          have a1 := gA 1
          have b0 := gB 0
          have b1 := gB 1
          simp only [List.getElem?_cons_zero, List.getElem?_cons_succ] at a0 a1 b0 b1
          have hlA := (hA.out.ext (E1)).lt
          have hlB := (hB.out.ext (E1)).lt
          clear gA gB
          go_wp2_with fail
          refine (hua.out _).mono ?_
          rintro e w2 ⟨rfl, E2⟩
          replace E2 := E1.trans E2
          clear a0 a1 b0 b1 hlA hlB
          have gA := (hA.out.ext (E2)).cells
          have gB := (hB.out.ext (E2)).cells
          have a0 := gA 0
          have a1 := gA 1
          have b0 := gB 0
          have b1 := gB 1
          simp only [List.getElem?_cons_zero, List.getElem?_cons_succ] at a0 a1 b0 b1
          have hlA := (hA.out.ext (E2)).lt
          have hlB := (hB.out.ext (E2)).lt
          clear gA gB
          go_wp2_with fail
          refine (hub.out _).mono ?_
          rintro e w3 ⟨rfl, E3⟩
          replace E3 := E2.trans E3
          clear a0 a1 b0 b1 hlA hlB
          go_wp2_with fail
          refine (cellsOf_any q n c l _ (h.ext (E0.trans E3)) hn (fun r hr => vR_near (hvs.out r hr))).mono ?_
          rintro e w4 ⟨B, rfl, hBn, bk, E4⟩
          have hbk := hid bk
          replace E4 := E3.trans E4
          clear bk
          have gA := (hA.out.ext (E4)).cells
          have gB := (hB.out.ext (E4)).cells
          have a0 := gA 0
          have a1 := gA 1
          have b0 := gB 0
          have b1 := gB 1
          simp only [List.getElem?_cons_zero, List.getElem?_cons_succ] at a0 a1 b0 b1
          have hlA := (hA.out.ext (E4)).lt
          have hlB := (hB.out.ext (E4)).lt
          clear gA gB
          go_wp2_with fail
          refine (hga.out B _ hbk.out).mono ?_
          rintro e w5 ⟨rfl, E5⟩
          replace hbk := hid (hbk.out.ext E5)
          replace E5 := E4.trans E5
          clear a0 a1 b0 b1 hlA hlB
          go_wp2_with fail
          go_ret2
          exact sr_none hr.out (by omega) (E0.trans E5)
        | false =>
          rw [h4] at hga
          cases h5 : gh (gL l) b.a b.b with
          | true =>
            have hr : Hid (srC l a b = 6) := by show _ = _; rw [srC, h1, h2, h3, h4, h5]; rfl
            rw [h5] at hgb
            replace hc1 := hid hc1
            replace hua := hid hua
            replace hub := hid hub
            replace hga := hid hga
            replace hgb := hid hgb
            clear h1 h2 h3 h4 h5
            go_enter Try.func17, Try.ntmps17
            go_wp2_with fail
            generalize hW : (w.alloc _).alloc _ = W0
            obtain ⟨E0, z0, bA, bB⟩ := boxes2 hW
            clear hW
            have hA := hid (show Blk W0 w.heap.size [.int .i64 a.a, .int .i64 a.b] _ from bA)
            have hB := hid (show Blk W0 (w.heap.size + 1) [.int .i64 b.a, .int .i64 b.b] _ from bB)
            clear bA bB
            replace z0 := hid z0
            refine (hc1.out _ E0).mono ?_
            rintro e w1 ⟨rfl, E1⟩
            have gA := (hA.out.ext (E1)).cells
            have gB := (hB.out.ext (E1)).cells
            have a0 := gA 0
            have a1 := gA 1
            have b0 := gB 0
            have b1 := gB 1
            simp only [List.getElem?_cons_zero, List.getElem?_cons_succ] at a0 a1 b0 b1
            have hlA := (hA.out.ext (E1)).lt
            have hlB := (hB.out.ext (E1)).lt
            clear gA gB
            go_wp2_with fail
            refine (hua.out _).mono ?_
            rintro e w2 ⟨rfl, E2⟩
            replace E2 := E1.trans E2
            clear a0 a1 b0 b1 hlA hlB
            have gA := (hA.out.ext (E2)).cells
            have gB := (hB.out.ext (E2)).cells
            have a0 := gA 0
            have a1 := gA 1
            have b0 := gB 0
            have b1 := gB 1
            simp only [List.getElem?_cons_zero, List.getElem?_cons_succ] at a0 a1 b0 b1
            have hlA := (hA.out.ext (E2)).lt
            have hlB := (hB.out.ext (E2)).lt
            clear gA gB
            go_wp2_with fail
            refine (hub.out _).mono ?_
            rintro e w3 ⟨rfl, E3⟩
            replace E3 := E2.trans E3
            clear a0 a1 b0 b1 hlA hlB
            go_wp2_with fail
            refine (cellsOf_any q n c l _ (h.ext (E0.trans E3)) hn (fun r hr => vR_near (hvs.out r hr))).mono ?_
            rintro e w4 ⟨B, rfl, hBn, bk, E4⟩
            have hbk := hid bk
            replace E4 := E3.trans E4
            clear bk
            have gA := (hA.out.ext (E4)).cells
            have gB := (hB.out.ext (E4)).cells
            have a0 := gA 0
            have a1 := gA 1
            have b0 := gB 0
            have b1 := gB 1
            simp only [List.getElem?_cons_zero, List.getElem?_cons_succ] at a0 a1 b0 b1
            have hlA := (hA.out.ext (E4)).lt
            have hlB := (hB.out.ext (E4)).lt
            clear gA gB
            go_wp2_with fail
            refine (hga.out B _ hbk.out).mono ?_
            rintro e w5 ⟨rfl, E5⟩
            replace hbk := hid (hbk.out.ext E5)
            replace E5 := E4.trans E5
            clear a0 a1 b0 b1 hlA hlB
            have gA := (hA.out.ext (E5)).cells
            have gB := (hB.out.ext (E5)).cells
            have a0 := gA 0
            have a1 := gA 1
            have b0 := gB 0
            have b1 := gB 1
            simp only [List.getElem?_cons_zero, List.getElem?_cons_succ] at a0 a1 b0 b1
            have hlA := (hA.out.ext (E5)).lt
            have hlB := (hB.out.ext (E5)).lt
            clear gA gB
            go_wp2_with fail
            refine (hgb.out B _ hbk.out).mono ?_
            rintro e w6 ⟨rfl, E6⟩
            replace hbk := hid (hbk.out.ext E6)
            replace E6 := E5.trans E6
            clear a0 a1 b0 b1 hlA hlB
            go_wp2_with fail
            go_ret2
            exact sr_none hr.out (by omega) (E0.trans E6)
          | false =>
            rw [h5] at hgb
            have hoka := hid (okP_on hoa.out)
            by_cases h6 : (bfs (gL l) b).1 a < 0
            · have hr : Hid (srC l a b = 5) := by show _ = _; rw [srC, h1, h2, h3, h4, h5, if_neg (by simp), if_neg (by simp), if_pos h6]
              have hf : Hid (mapF (bfs (gL l) b).1 a = none) := mapF_none h6
              replace hc1 := hid hc1
              replace hua := hid hua
              replace hub := hid hub
              replace hga := hid hga
              replace hgb := hid hgb
              clear h1 h2 h3 h4 h5 h6
              go_enter Try.func17, Try.ntmps17
              go_wp2_with fail
              generalize hW : (w.alloc _).alloc _ = W0
              obtain ⟨E0, z0, bA, bB⟩ := boxes2 hW
              clear hW
              have hA := hid (show Blk W0 w.heap.size [.int .i64 a.a, .int .i64 a.b] _ from bA)
              have hB := hid (show Blk W0 (w.heap.size + 1) [.int .i64 b.a, .int .i64 b.b] _ from bB)
              clear bA bB
              replace z0 := hid z0
              refine (hc1.out _ E0).mono ?_
              rintro e w1 ⟨rfl, E1⟩
              have gA := (hA.out.ext (E1)).cells
              have gB := (hB.out.ext (E1)).cells
              have a0 := gA 0
              have a1 := gA 1
              have b0 := gB 0
              have b1 := gB 1
              simp only [List.getElem?_cons_zero, List.getElem?_cons_succ] at a0 a1 b0 b1
              have hlA := (hA.out.ext (E1)).lt
              have hlB := (hB.out.ext (E1)).lt
              clear gA gB
              go_wp2_with fail
              refine (hua.out _).mono ?_
              rintro e w2 ⟨rfl, E2⟩
              replace E2 := E1.trans E2
              clear a0 a1 b0 b1 hlA hlB
              have gA := (hA.out.ext (E2)).cells
              have gB := (hB.out.ext (E2)).cells
              have a0 := gA 0
              have a1 := gA 1
              have b0 := gB 0
              have b1 := gB 1
              simp only [List.getElem?_cons_zero, List.getElem?_cons_succ] at a0 a1 b0 b1
              have hlA := (hA.out.ext (E2)).lt
              have hlB := (hB.out.ext (E2)).lt
              clear gA gB
              go_wp2_with fail
              refine (hub.out _).mono ?_
              rintro e w3 ⟨rfl, E3⟩
              replace E3 := E2.trans E3
              clear a0 a1 b0 b1 hlA hlB
              go_wp2_with fail
              refine (cellsOf_any q n c l _ (h.ext (E0.trans E3)) hn (fun r hr => vR_near (hvs.out r hr))).mono ?_
              rintro e w4 ⟨B, rfl, hBn, bk, E4⟩
              have hbk := hid bk
              replace E4 := E3.trans E4
              clear bk
              have gA := (hA.out.ext (E4)).cells
              have gB := (hB.out.ext (E4)).cells
              have a0 := gA 0
              have a1 := gA 1
              have b0 := gB 0
              have b1 := gB 1
              simp only [List.getElem?_cons_zero, List.getElem?_cons_succ] at a0 a1 b0 b1
              have hlA := (hA.out.ext (E4)).lt
              have hlB := (hB.out.ext (E4)).lt
              clear gA gB
              go_wp2_with fail
              refine (hga.out B _ hbk.out).mono ?_
              rintro e w5 ⟨rfl, E5⟩
              replace hbk := hid (hbk.out.ext E5)
              replace E5 := E4.trans E5
              clear a0 a1 b0 b1 hlA hlB
              have gA := (hA.out.ext (E5)).cells
              have gB := (hB.out.ext (E5)).cells
              have a0 := gA 0
              have a1 := gA 1
              have b0 := gB 0
              have b1 := gB 1
              simp only [List.getElem?_cons_zero, List.getElem?_cons_succ] at a0 a1 b0 b1
              have hlA := (hA.out.ext (E5)).lt
              have hlB := (hB.out.ext (E5)).lt
              clear gA gB
              go_wp2_with fail
              refine (hgb.out B _ hbk.out).mono ?_
              rintro e w6 ⟨rfl, E6⟩
              replace hbk := hid (hbk.out.ext E6)
              replace E6 := E5.trans E6
              clear a0 a1 b0 b1 hlA hlB
              have gA := (hA.out.ext (E6)).cells
              have gB := (hB.out.ext (E6)).cells
              have a0 := gA 0
              have a1 := gA 1
              have b0 := gB 0
              have b1 := gB 1
              simp only [List.getElem?_cons_zero, List.getElem?_cons_succ] at a0 a1 b0 b1
              have hlA := (hA.out.ext (E6)).lt
              have hlB := (hB.out.ext (E6)).lt
              clear gA gB
              go_wp2_with fail
              refine (distances_any B (gL l) b _ hbk.out hob.out).mono ?_
              rintro e w7 ⟨M, rfl, hm, E7⟩
              replace E7 := E6.trans E7
              clear a0 a1 b0 b1 hlA hlB
              have gA := (hA.out.ext (E7)).cells
              have gB := (hB.out.ext (E7)).cells
              have a0 := gA 0
              have a1 := gA 1
              have b0 := gB 0
              have b1 := gB 1
              simp only [List.getElem?_cons_zero, List.getElem?_cons_succ] at a0 a1 b0 b1
              have hlA := (hA.out.ext (E7)).lt
              have hlB := (hB.out.ext (E7)).lt
              clear gA gB
              have rk := MapPI.run_getok hm hoka.out
              rw [hf.out] at rk
              simp only [Option.getD_none, Option.isSome_none] at rk
              clear hm
              go_wp2_with fail
              go_ret2
              exact sr_none hr.out (by omega) (E0.trans E7)
            · have hr : Hid (srC l a b = 0) := by show _ = _; rw [srC, h1, h2, h3, h4, h5, if_neg (by simp), if_neg (by simp), if_neg h6]
              have hf : Hid (mapF (bfs (gL l) b).1 a = some ((bfs (gL l) b).1 a)) := mapF_some (by omega)
              have hDa : Hid (0 ≤ (bfs (gL l) b).1 a) := by show _ ≤ _; omega
              replace hc1 := hid hc1
              replace hua := hid hua
              replace hub := hid hub
              replace hga := hid hga
              replace hgb := hid hgb
              clear h1 h2 h3 h4 h5 h6
              go_enter Try.func17, Try.ntmps17
              go_wp2_with fail
              generalize hW : (w.alloc _).alloc _ = W0
              obtain ⟨E0, z0, bA, bB⟩ := boxes2 hW
              clear hW
              have hA := hid (show Blk W0 w.heap.size [.int .i64 a.a, .int .i64 a.b] _ from bA)
              have hB := hid (show Blk W0 (w.heap.size + 1) [.int .i64 b.a, .int .i64 b.b] _ from bB)
              clear bA bB
              replace z0 := hid z0
              refine (hc1.out _ E0).mono ?_
              rintro e w1 ⟨rfl, E1⟩
              have gA := (hA.out.ext (E1)).cells
              have gB := (hB.out.ext (E1)).cells
              have a0 := gA 0
              have a1 := gA 1
              have b0 := gB 0
              have b1 := gB 1
              simp only [List.getElem?_cons_zero, List.getElem?_cons_succ] at a0 a1 b0 b1
              have hlA := (hA.out.ext (E1)).lt
              have hlB := (hB.out.ext (E1)).lt
              clear gA gB
              go_wp2_with fail
              refine (hua.out _).mono ?_
              rintro e w2 ⟨rfl, E2⟩
              replace E2 := E1.trans E2
              clear a0 a1 b0 b1 hlA hlB
              have gA := (hA.out.ext (E2)).cells
              have gB := (hB.out.ext (E2)).cells
              have a0 := gA 0
              have a1 := gA 1
              have b0 := gB 0
              have b1 := gB 1
              simp only [List.getElem?_cons_zero, List.getElem?_cons_succ] at a0 a1 b0 b1
              have hlA := (hA.out.ext (E2)).lt
              have hlB := (hB.out.ext (E2)).lt
              clear gA gB
              go_wp2_with fail
              refine (hub.out _).mono ?_
              rintro e w3 ⟨rfl, E3⟩
              replace E3 := E2.trans E3
              clear a0 a1 b0 b1 hlA hlB
              go_wp2_with fail
              refine (cellsOf_any q n c l _ (h.ext (E0.trans E3)) hn (fun r hr => vR_near (hvs.out r hr))).mono ?_
              rintro e w4 ⟨B, rfl, hBn, bk, E4⟩
              have hbk := hid bk
              replace E4 := E3.trans E4
              clear bk
              have gA := (hA.out.ext (E4)).cells
              have gB := (hB.out.ext (E4)).cells
              have a0 := gA 0
              have a1 := gA 1
              have b0 := gB 0
              have b1 := gB 1
              simp only [List.getElem?_cons_zero, List.getElem?_cons_succ] at a0 a1 b0 b1
              have hlA := (hA.out.ext (E4)).lt
              have hlB := (hB.out.ext (E4)).lt
              clear gA gB
              go_wp2_with fail
              refine (hga.out B _ hbk.out).mono ?_
              rintro e w5 ⟨rfl, E5⟩
              replace hbk := hid (hbk.out.ext E5)
              replace E5 := E4.trans E5
              clear a0 a1 b0 b1 hlA hlB
              have gA := (hA.out.ext (E5)).cells
              have gB := (hB.out.ext (E5)).cells
              have a0 := gA 0
              have a1 := gA 1
              have b0 := gB 0
              have b1 := gB 1
              simp only [List.getElem?_cons_zero, List.getElem?_cons_succ] at a0 a1 b0 b1
              have hlA := (hA.out.ext (E5)).lt
              have hlB := (hB.out.ext (E5)).lt
              clear gA gB
              go_wp2_with fail
              refine (hgb.out B _ hbk.out).mono ?_
              rintro e w6 ⟨rfl, E6⟩
              replace hbk := hid (hbk.out.ext E6)
              replace E6 := E5.trans E6
              clear a0 a1 b0 b1 hlA hlB
              have gA := (hA.out.ext (E6)).cells
              have gB := (hB.out.ext (E6)).cells
              have a0 := gA 0
              have a1 := gA 1
              have b0 := gB 0
              have b1 := gB 1
              simp only [List.getElem?_cons_zero, List.getElem?_cons_succ] at a0 a1 b0 b1
              have hlA := (hA.out.ext (E6)).lt
              have hlB := (hB.out.ext (E6)).lt
              clear gA gB
              go_wp2_with fail
              refine (distances_any B (gL l) b _ hbk.out hob.out).mono ?_
              rintro e w7 ⟨M, rfl, hm, E7⟩
              replace E7 := E6.trans E7
              clear a0 a1 b0 b1 hlA hlB
              have gA := (hA.out.ext (E7)).cells
              have gB := (hB.out.ext (E7)).cells
              have a0 := gA 0
              have a1 := gA 1
              have b0 := gB 0
              have b1 := gB 1
              simp only [List.getElem?_cons_zero, List.getElem?_cons_succ] at a0 a1 b0 b1
              have hlA := (hA.out.ext (E7)).lt
              have hlB := (hB.out.ext (E7)).lt
              clear gA gB
              have rk := MapPI.run_getok hm hoka.out
              rw [hf.out] at rk
              simp only [Option.getD_some, Option.isSome_some] at rk
              replace hm := hid hm
              have hEBw := E7
              have hEw7 := hid (E0.trans E7)
              clear E0 E1 E2 E3 E4 E5 E6 E7
              obtain ⟨D, hD⟩ : ∃ D, D = (bfs (gL l) b).1 := ⟨_, rfl⟩
              obtain ⟨P, hP⟩ : ∃ P, P = pathN D (D a).toNat a := ⟨_, rfl⟩
              have hsrl : Hid (srL l a b = P) := by show _ = _; rw [srL, hr.out, if_pos rfl, hP, hD]
              have hbd := hid (fun x => (inv_bfs (g := gL l) hob.out).bd x)
              have hln := hid (inv_bfs (g := gL l) hob.out).len
              have hzero := hid (down_bfs (g := gL l) hob.out).zero
              have hnext := hid (fun x (hx : 0 < (bfs (gL l) b).1 x) => next_ok (g := gL l) hob.out hx)
              have hPl := srL_len l a b
              rw [hsrl.out] at hPl
              rw [← hD] at hm hDa rk hbd hzero hnext
              replace hD := hid hD
              replace hP := hid hP
              have hBw := hid (hB.out.ext hEBw)
              go_wp2_with fail
              clear rk a0 a1 b0 b1 hlA hlB
              have hg2 := guard2
              go_loopw [12, 13] (Going D P w7) (fun v _ _ => 7000 - lenOf v)
              case atStart =>
                refine ⟨w7.heap.size + 1, (D a).toNat, a, [a], _, _, rfl, rfl, ?_, hid ⟨hoa.out, by have := hDa.out; omega, ?_⟩, ?_, ?_, by omega, ?_⟩
                · have := heap_new (w7.alloc (.cells #[.int .i64 a.a, .int .i64 a.b] 26)) (.cells #[.int .i64 a.a, .int .i64 a.b] 26)
                  rw [World.size_alloc] at this; exact this
                · rw [hP.out, pathN_head D (D a).toNat a]; rfl
                · exact owns_cells (n := 1) (size := 2) (cs := [.int .i64 a.a, .int .i64 a.b]) (heap_old _ (heap_new w7 _)) (Nat.le_refl _) rfl (by simp [maxLen])
                · simp [Value.ownBlock]
                · exact ((Ext.refl _).alloc _).alloc _
              case round =>
                obtain ⟨pa, m, cur, out, q', c', rfl, rfl, hpa, hI, ho, hqp, hpa7, hE⟩ := hrel
                have hol : out.length ≤ 6401 := by
                  have := congrArg List.length hI.out.2.2
                  rw [List.length_append] at this
                  omega
                have gP := hpa.cells
                have gB := (hBw.out.ext hE).cells
                have p0 := gP 0
                have p1 := gP 1
                have b0 := gB 0
                have b1 := gB 1
                simp only [List.getElem?_cons_zero, List.getElem?_cons_succ] at p0 p1 b0 b1
                have hlP := hpa.lt
                have hlB := (hBw.out.ext hE).lt
                clear gP gB
                have he := fun W => eq2 cur b W
                simp only [V2] at he
                by_cases hm0 : m = 0
                · have hcb : cur = b := (hzero.out cur).1 (by rw [hI.out.2.1, hm0]; rfl)
                  have hfin : Hid (out = P) := by
                    show _ = _
                    have := hI.out.2.2
                    rw [hm0, pathN, List.tail_cons, List.append_nil] at this; exact this
                  have hdec : decide (cur = b) = true := decide_eq_true hcb
                  rw [hdec] at he
                  replace hcb := hid hcb
                  replace hm0 := hid hm0
                  clear hdec
                  replace ho := hid ho
                  replace hpa := hid hpa
                  go_wp2_with fail
                  go_ret2
                  refine ⟨q', c', ?_, ?_, hEw7.out.trans hE⟩
                  · rw [hr.out, hsrl.out, ← hfin.out]; rfl
                  · rw [hsrl.out, ← hfin.out]; exact Joins.ownsRow_le ho.out hEw7.out.le
                · obtain ⟨k, rfl⟩ : ∃ k, m = k + 1 := ⟨m - 1, by omega⟩
                  have hDc : D cur = k + 1 := by have := hI.out.2.1; omega
                  have hcb : cur ≠ b := fun e => by have := (hzero.out cur).2 e; omega
                  have hdec : decide (cur = b) = false := decide_eq_false hcb
                  rw [hdec] at he
                  have hnx := hnext.out cur
                  have hnx := hid (hnx (by omega))
                  have hkb : (k : Int) + 1 < 6401 := by have h1 := (hbd.out cur).2; have h2 := hln.out; omega
                  have hcurn := hid (onC_near hI.out.1)
                  have hcok := hid (okP_on hI.out.1)
                  have hnl := nearL_len cur
                  have hbDc := hid hDc
                  replace hcb := hid hcb
                  replace hm0 := hid hm0
                  clear hdec hDc
                  replace ho := hid ho
                  replace hpa := hid hpa
                  replace hqp := hid hqp
                  go_wp2_with fail
                  refine (near_any cur _ hcurn.out).mono ?_
                  rintro e w9 ⟨qn, cn, rfl, on, E9⟩
                  have sn := hid (SlT.of_owns (l := nearL cur) enc2_len rfl on)
                  have hE9 := hid E9
                  clear on E9 p0 p1 b0 b1 hlP hlB he
                  obtain ⟨nl, hnlE⟩ : ∃ nl, nl = nearL cur := ⟨_, rfl⟩
                  rw [← hnlE] at sn hnl ⊢
                  replace hnlE := hid hnlE
                  go_wp2_with fail
                  go_loopw [67] (fun j wr => ∃ i : Nat, i ≤ nl.length ∧ j = .int .i64 i ∧ Hid ((nl.take i).find? (fun x => decide (D x = D cur - 1)) = none) ∧ Ext w9 wr) (fun j _ => 4 - (intOf j).toNat)
                  case atStart => exact ⟨0, by omega, rfl, (by show _ = _; rfl), Ext.refl _⟩
                  case round =>
                    obtain ⟨i, hi', rfl, hF, hEi⟩ := hrel
                    by_cases hil : i < nl.length
                    · obtain ⟨bx, ox, x, rfl, hbx, hx, x0, x1⟩ := (sn.out.ext hEi).two hil
                      have hiI : (i : Int) < (nl.length : Int) := by omega
                      have hxon := hid (nearL_on (hnlE.out ▸ List.mem_of_getElem? hx.out : x ∈ nearL cur))
                      have hxok := hid (okP_on hxon.out)
                      have hE7i := hE.trans (hE9.out.trans hEi)
                      have hmi := hid (hm.out.ext hE7i)
                      have hm3 := MapPI.run_getok (hmi.out.ext ((Ext.refl _).alloc (.cells #[.int .i64 x.a, .int .i64 x.b] 26))) hxok.out
                      have hm4 := MapPI.run_get1 (hmi.out.ext ((Ext.refl _).alloc (.cells #[.int .i64 x.a, .int .i64 x.b] 26))) hcok.out
                      rw [mapF_some (q := cur) (by have := hbDc.out; omega), hbDc.out] at hm4
                      simp only [Option.getD_some] at hm4
                      have hpi := hpa.out.ext (hE9.out.trans hEi)
                      have gP := hpi.cells
                      have p0 := gP 0
                      have p1 := gP 1
                      simp only [List.getElem?_cons_zero, List.getElem?_cons_succ] at p0 p1
                      have hlP := hpi.lt
                      have hff := hpi.free
                      clear gP
                      by_cases hDx : D x < 0
                      · have hF2 : Hid ((nl.take (i + 1)).find? (fun x => decide (D x = D cur - 1)) = none) := find_miss hF.out hx.out (by have := hbDc.out; simp; omega)
                        rw [mapF_none hDx] at hm3
                        simp only [Option.getD_none, Option.isSome_none] at hm3
                        have hE2 := hid (hEi.alloc (.cells #[.int .i64 x.a, .int .i64 x.b] 26))
                        replace hpi := hid hpi
                        go_wp2_with fail
                        clear hm3 hm4
                        go_roundw
                        case rel => exact ⟨i + 1, by omega, by go_num, hF2, hE2.out⟩
                        case measure => simp [intOf]; omega
                      · rw [mapF_some (by omega)] at hm3
                        simp only [Option.getD_some, Option.isSome_some] at hm3
                        by_cases hDk : D x = k
                        · have hq : nextP D cur = x := by
                            rw [nextP, ← hnlE.out, find_hit hF.out hx.out (by have := hbDc.out; simp; omega)]; rfl
                          have hgo := hid (path_go hI.out.2.2 hq)
                          have hDk' := hid hDk
                          rw [hDk] at hm3
                          clear hDk hq
                          have rO := hid ((owns_other (owns_other (owns_ext ho.out (hE9.out.trans hEi)) hqp.out 0 (.int .i64 x.a)) hqp.out 1 (.int .i64 x.b)).alloc (.cells #[.int .i64 x.a, .int .i64 x.b] 26))
                          have rE := hid (((hE7i.setCell (p := ⟨pa, 0, none⟩) hpa7 (.int .i64 x.a)).setCell (p := ⟨pa, 1, none⟩) hpa7 (.int .i64 x.b)).alloc (.cells #[.int .i64 x.a, .int .i64 x.b] 26))
                          have rP := hid (((hpi.set 0 (.int .i64 x.a)).set 1 (.int .i64 x.b)).alloc (.cells #[.int .i64 x.a, .int .i64 x.b] 26))
                          have rP2 := rP.out.alloc (.cells #[.int .i64 x.a, .int .i64 x.b] 26)
                          have rP0 := rP2.cells 0
                          have rP1 := rP2.cells 1
                          simp only [List.set_cons_zero, List.set_cons_succ, List.getElem?_cons_zero, List.getElem?_cons_succ] at rP0 rP1
                          replace rP0 := hid rP0
                          replace rP1 := hid rP1
                          have hx1 := hid rP2.lt
                          have hx2 := hid (rE.out.alloc (.cells #[.int .i64 x.a, .int .i64 x.b] 26)).le
                          clear rP2
                          have hsz9 : Hid ((((wr.setCell ⟨pa, 0, none⟩ (.int .i64 x.a)).setCell ⟨pa, 1, none⟩ (.int .i64 x.b)).alloc (.cells #[.int .i64 x.a, .int .i64 x.b] 26)).heap.size = wr.heap.size + 1) := by show _ = _; simp [World.setCell]
                          have hw7i : w7.heap.size ≤ wr.heap.size := hE7i.le
                          have hpl9 : Hid (pa < wr.heap.size) := hlP
                          replace hpi := hid hpi
                          go_wp2_with (at_builtin; refine wpList_append_own _ rfl _ _ 29 rfl w7.heap.size 26 i0 (.agg #[.int .i64 0, .int .i64 0]) 2 16 Try.underlying29 hi hz0 hz1 hz2 rfl (by omega) _ _ _ rfl (World.ownsRow.alloc rO.out _) ⟨_, 0, none⟩ 1 1 [.int .i64 x.a, .int .i64 x.b] rfl rfl (by have h9 := cells_new (((wr.setCell ⟨pa, 0, none⟩ (.int .i64 x.a)).setCell ⟨pa, 1, none⟩ (.int .i64 x.b)).alloc (.cells #[.int .i64 x.a, .int .i64 x.b] 26)) [.int .i64 x.a, .int .i64 x.b] 26; rw [hsz9.out] at h9; exact h9) (one_int2 _ _) (len_le (by omega) (by omega)) (by omega) hx2.out ?_; intro v' w10 ho' hg' _; obtain ⟨qa, ca, rfl⟩ := owns_forms ho'; have t4 := hid ((rE.out.alloc _).grown hg' (fun k hk => (rO.out.lt k hk).1)); have t5 := (grown_cell hg' hx1.out hqp.out 0).trans rP0.out; have t6 := (grown_cell hg' hx1.out hqp.out 1).trans rP1.out; have t7 : pa < w10.heap.size := Nat.lt_of_lt_of_le hx1.out hg'.size; replace ho' := hid ho'; clear hg')
                          have hlq := hid (fun kk hk => (ho'.out.lt kk hk).2)
                          go_roundw
                          case rel => exact ⟨w10.heap.size, k, x, out ++ [x], qa, ca, by rw [List.length_append]; rfl, rfl, Blk.new _ [_, _] _, hid ⟨hxon.out, hDk'.out, hgo.out⟩, by rw [List.length_append, List.flatMap_append]; exact ho'.out.alloc _, by rw [List.length_append]; exact (fun e => by have := hlq.out _ e; omega), t4.out.le, t4.out.alloc _⟩
                          case measure => simp [lenOf]; omega
                        · have hF2 : Hid ((nl.take (i + 1)).find? (fun x => decide (D x = D cur - 1)) = none) := find_miss hF.out hx.out (by have := hbDc.out; simp; omega)
                          have hE2 := hid (hEi.alloc (.cells #[.int .i64 x.a, .int .i64 x.b] 26))
                          obtain ⟨V, hV⟩ : ∃ V, V = D x := ⟨_, rfl⟩
                          rw [← hV] at hm3 hDk
                          have hne1 : (V == (k : Int)) = false := by simpa using hDk
                          replace hV := hid hV
                          replace hpi := hid hpi
                          go_wp2_with fail
                          clear hm3 hm4
                          go_roundw
                          case rel => exact ⟨i + 1, by omega, by go_num, hF2, hE2.out⟩
                          case measure => simp [intOf]; omega
                    · exfalso
                      have h1 := hF.out
                      rw [List.take_of_length_le (by omega)] at h1
                      rw [List.find?_eq_none] at h1
                      have h2 := h1 _ (hnlE.out ▸ hnx.out.1)
                      simp at h2
                      exact h2 (by have := hnx.out.2; omega)
end Go.Proofs.Ythdilndfcdpeiaa
