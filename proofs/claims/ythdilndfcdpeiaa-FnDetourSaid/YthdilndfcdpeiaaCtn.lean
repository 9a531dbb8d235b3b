/- Contracts of contains, RectContains, FloodRegion (program). Condition: at most 2^20 rectangles. -/
import Derived.Test.YthdilndfcdpeiaaFlo
import Derived.Test.YthdilndfcdpeiaaReg
import Derived.Test.YthdilndfcdpeiaaFnR
import Derived.Deep.RegionHeld3
namespace Go.Proofs.Ythdilndfcdpeiaa
open Go.RowKit

theorem owns_low {w : World} {b b' size n : Nat} {e : TypeId} {v : Value} {xs : List Value} (h : w.ownsRow b e size v n xs) (hb : b' ≤ b) : w.ownsRow b' e size v n xs :=
  ⟨h.1, h.2.elim Or.inl (fun ⟨g, cap, cur, hv, hg, r⟩ => Or.inr ⟨g, cap, cur, hv, Nat.le_trans hb hg, r⟩)⟩
set_option maxHeartbeats 4000000 in
theorem RectContains_any (r : Q4) (x y : Int) (w : World) (hv : vR r = true) :
    Calls Try.prog 99 #[.agg #[.int .i64 r.a, .int .i64 r.b, .int .i64 r.c, .int .i64 r.d], .int .i64 x, .int .i64 y] w fun e w' => e = .returned (.bool (inR r x y)) ∧ Ext w w' := by
  have hcall := fun W => IsValidRect_any r W
  rw [hv] at hcall
  replace hv := hid hv
  replace hcall := hid hcall
  go_enter Try.func99, Try.ntmps99
  go_wp2_with fail
  refine (hcall.out _).mono ?_
  rintro e w2 ⟨rfl, E2⟩
  have hc := E2.cells
  have hz := E2.le
  have g0 := hc w.heap.size 0 (by simp)
  have g1 := hc w.heap.size 1 (by simp)
  have g2 := hc w.heap.size 2 (by simp)
  have g3 := hc w.heap.size 3 (by simp)
  clear hc
  go_wp2_with fail
  all_goals
    go_ret
    exact ⟨ret_bool (by simp [inR, *] <;> omega), ((Ext.refl _).alloc _).trans E2⟩
set_option maxHeartbeats 4000000 in
theorem contains1_pred (b : Nat) (l : List Q4) (a : Q2) (w : World) (hv : ∀ r ∈ l, vR r = true) (hb : b < w.heap.size) (e0 : w.cell? ⟨b, 0, none⟩ = some (.int .i64 a.a)) (e1 : w.cell? ⟨b, 1, none⟩ = some (.int .i64 a.b)) :
    PredR 117 #[.pointer (some ⟨b, 0, none⟩)] (fun r => inR r a.a a.b) l w := by
  intro W x hE hx
  show Calls Try.prog 117 #[.agg #[.int .i64 x.a, .int .i64 x.b, .int .i64 x.c, .int .i64 x.d], .pointer (some ⟨b, 0, none⟩)] W fun e w' => e = .returned (.bool (inR x a.a a.b)) ∧ Ext W w'
  have hvx := hid (hv x hx)
  have f0 := (hE.cells b 0 hb).trans e0
  have f1 := (hE.cells b 1 hb).trans e1
  have hbW : b < W.heap.size := Nat.lt_of_lt_of_le hb hE.le
  clear hE e0 e1 hv hx
  go_enter Try.func117, Try.ntmps117
  go_wp2_with (go_at_call 99; refine (RectContains_any x a.a a.b _ hvx.out).mono ?_; rintro e w' ⟨rfl, E⟩)
  go_ret
  exact ⟨rfl, ((Ext.refl _).alloc _).trans E⟩
set_option maxHeartbeats 4000000 in
theorem contains_any (q : Option Addr) (n c : Nat) (l : List Q4) (a : Q2) (w : World) (h : SlT enc4 4 w q n l) (hn : n ≤ 1048576) (hv : ∀ r ∈ l, vR r = true) :
    Calls Try.prog 95 #[.slice q n c, .agg #[.int .i64 a.a, .int .i64 a.b]] w fun e w' => e = .returned (.bool (inL l a.a a.b)) ∧ Ext w w' := by
  have hv := hid hv
  go_enter Try.func95, Try.ntmps95
  go_wp2_with fail
  generalize hW : w.alloc _ = W0
  obtain ⟨E0, z0, b0⟩ := boxes1 hW
  clear hW
  have gb := (show Blk W0 w.heap.size [.int .i64 a.a, .int .i64 a.b] _ from b0)
  have e0 := gb.cells 0
  have e1 := gb.cells 1
  simp only [List.getElem?_cons_zero, List.getElem?_cons_succ] at e0 e1
  have hp := contains1_pred w.heap.size l a W0 hv.out gb.lt e0 e1
  clear b0 gb e0 e1
  refine (containsFuncR_any q n c l _ _ #[.pointer (some ⟨w.heap.size, 0, none⟩)] (enters_of Try.func117 (by kernel_rfl) rfl) _ (h.ext E0) hp hn).mono ?_
  rintro e w2 ⟨rfl, E2⟩
  go_wp2_with fail
  go_ret
  exact ⟨rfl, E0.trans E2⟩
/-- The region that FloodRegion tells. -/
def frL (l : List Q4) (a : Q2) : List Q4 := if (isReg l && onC a.a a.b && !gh (gL l) a.a a.b) = true then canon (gD (bfs (gL l) a).1) else []
theorem frL_len (l : List Q4) (a : Q2) : (frL l a).length ≤ 3200 := by
  rw [frL]; split
  · exact canon_len _
  · simp
theorem floodG_bfs (g : Grid) {p : Q2} (h : onC p.a p.b = true) : floodG (gnot g) false p = gD (bfs g p).1 := by
  rw [floodG, gD, gD]
  congr 1
  funext x y
  rw [decide_eq_decide]
  exact flood_bfs g h ⟨x, y⟩
theorem reg_none {l : List Q4} {w w' : World} (h : l = []) (hE : Ext w w') : RegB l w (.returned (.slice none 0 0)) w' := by
  subst h
  exact ⟨none, 0, rfl, World.ownsRow_nil _ _ _ _, hE⟩
theorem gL_gh {l : List Q4} {x y : Int} (h : onC x y = true) : gh (gL l) x y = inL l x y := by rw [gL, gh_gmk _ h]
set_option maxRecDepth 100000 in
set_option maxHeartbeats 8000000 in
theorem FloodRegion_any (q : Option Addr) (n c : Nat) (l : List Q4) (a : Q2) (w : World) (h : SlT enc4 4 w q n l) (hn : n ≤ 1048576) :
    Calls Try.prog 38 #[.slice q n c, .agg #[.int .i64 a.a, .int .i64 a.b]] w (RegB (frL l a) w) := by
  have hc1 := fun W (hW : Ext w W) => IsRegion_any q n c l W (h.ext hW) hn
  have hua := fun W => isUnitCell_any a.a a.b W
  cases h1 : isReg l with
  | false =>
    have hr : Hid (frL l a = []) := by show _ = _; rw [frL, h1]; rfl
    rw [h1] at hc1
    replace hc1 := hid hc1
    replace hua := hid hua
    clear h1
    go_enter Try.func38, Try.ntmps38
    go_wp2_with fail
    generalize hW : w.alloc _ = W0
    obtain ⟨E0, z0, b0⟩ := boxes1 hW
    clear hW b0
    replace z0 := hid z0
    refine (hc1.out _ E0).mono ?_
    rintro e w1 ⟨rfl, E1⟩
    go_wp2_with fail
    go_ret
    exact reg_none hr.out (E0.trans E1)
  | true =>
    have hvs := hid (vRs_parts (isReg_iff.1 h1).1).2
    rw [h1] at hc1
    cases h2 : onC a.a a.b with
    | false =>
      have hr : Hid (frL l a = []) := by show _ = _; rw [frL, h1, h2]; rfl
      rw [h2] at hua
      replace hc1 := hid hc1
      replace hua := hid hua
      clear h1 h2
      go_enter Try.func38, Try.ntmps38
      go_wp2_with fail
      generalize hW : w.alloc _ = W0
      obtain ⟨E0, z0, b0⟩ := boxes1 hW
      clear hW
      have gb := hid (show Blk W0 w.heap.size [.int .i64 a.a, .int .i64 a.b] _ from b0)
      clear b0
      replace z0 := hid z0
      refine (hc1.out _ E0).mono ?_
      rintro e w1 ⟨rfl, E1⟩
      have e0 := (gb.out.ext E1).cells 0
      have e1 := (gb.out.ext E1).cells 1
      simp only [List.getElem?_cons_zero, List.getElem?_cons_succ] at e0 e1
      have hb1 := (gb.out.ext E1).lt
      go_wp2_with fail
      refine (hua.out _).mono ?_
      rintro e w2 ⟨rfl, E2⟩
      go_wp2_with fail
      go_ret
      exact reg_none hr.out (E0.trans (E1.trans E2))
    | true =>
      have hgi := hid (gL_gh (l := l) h2)
      have hon := hid h2
      rw [h2] at hua
      cases h3 : gh (gL l) a.a a.b with
      | true =>
        have hr : Hid (frL l a = []) := by show _ = _; rw [frL, h1, h2, h3]; rfl
        have hc3 := fun W (hW : Ext w W) => contains_any q n c l a W (h.ext hW) hn hvs.out
        rw [← hgi.out, h3] at hc3
        replace hc1 := hid hc1
        replace hua := hid hua
        replace hc3 := hid hc3
        clear h1 h2 h3
        go_enter Try.func38, Try.ntmps38
        go_wp2_with fail
        generalize hW : w.alloc _ = W0
        obtain ⟨E0, z0, b0⟩ := boxes1 hW
        clear hW
        have gb := hid (show Blk W0 w.heap.size [.int .i64 a.a, .int .i64 a.b] _ from b0)
        clear b0
        replace z0 := hid z0
        refine (hc1.out _ E0).mono ?_
        rintro e w1 ⟨rfl, E1⟩
        have e0 := (gb.out.ext E1).cells 0
        have e1 := (gb.out.ext E1).cells 1
        simp only [List.getElem?_cons_zero, List.getElem?_cons_succ] at e0 e1
        have hb1 := (gb.out.ext E1).lt
        go_wp2_with fail
        refine (hua.out _).mono ?_
        rintro e w2 ⟨rfl, E2⟩
        replace E2 := E1.trans E2
        clear e0 e1 hb1
        have e0 := (gb.out.ext E2).cells 0
        have e1 := (gb.out.ext E2).cells 1
        simp only [List.getElem?_cons_zero, List.getElem?_cons_succ] at e0 e1
        have hb1 := (gb.out.ext E2).lt
        go_wp2_with fail
        refine (hc3.out _ (E0.trans E2)).mono ?_
        rintro e w3 ⟨rfl, E3⟩
        go_wp2_with fail
        go_ret
        exact reg_none hr.out (E0.trans (E2.trans E3))
      | false =>
        have hr : Hid (frL l a = canon (floodG (gnot (gL l)) false a)) := by show _ = _; rw [frL, h1, h2, h3, floodG_bfs _ h2]; rfl
        have hc3 := fun W (hW : Ext w W) => contains_any q n c l a W (h.ext hW) hn hvs.out
        rw [← hgi.out, h3] at hc3
        obtain ⟨⟨oa0, oa1⟩, oa2, oa3⟩ := onC_iff.1 h2
        replace hc1 := hid hc1
        replace hua := hid hua
        replace hc3 := hid hc3
        clear h1 h2 h3
        go_enter Try.func38, Try.ntmps38
        go_wp2_with fail
        generalize hW : w.alloc _ = W0
        obtain ⟨E0, z0, b0⟩ := boxes1 hW
        clear hW
        have gb := hid (show Blk W0 w.heap.size [.int .i64 a.a, .int .i64 a.b] _ from b0)
        clear b0
        replace z0 := hid z0
        refine (hc1.out _ E0).mono ?_
        rintro e w1 ⟨rfl, E1⟩
        have e0 := (gb.out.ext E1).cells 0
        have e1 := (gb.out.ext E1).cells 1
        simp only [List.getElem?_cons_zero, List.getElem?_cons_succ] at e0 e1
        have hb1 := (gb.out.ext E1).lt
        go_wp2_with fail
        refine (hua.out _).mono ?_
        rintro e w2 ⟨rfl, E2⟩
        replace E2 := E1.trans E2
        clear e0 e1 hb1
        have e0 := (gb.out.ext E2).cells 0
        have e1 := (gb.out.ext E2).cells 1
        simp only [List.getElem?_cons_zero, List.getElem?_cons_succ] at e0 e1
        have hb1 := (gb.out.ext E2).lt
        go_wp2_with fail
        refine (hc3.out _ (E0.trans E2)).mono ?_
        rintro e w3 ⟨rfl, E3⟩
        replace E3 := E2.trans E3
        clear e0 e1 hb1
        have e0 := (gb.out.ext E3).cells 0
        have e1 := (gb.out.ext E3).cells 1
        simp only [List.getElem?_cons_zero, List.getElem?_cons_succ] at e0 e1
        have hb1 := (gb.out.ext E3).lt
        have hw1 : IntKind.i64.wrap (a.a + 40) = a.a + 40 := IntWalk.i64_in _ (by omega)
        have hw2 : IntKind.i64.wrap (a.b + 40) = a.b + 40 := IntWalk.i64_in _ (by omega)
        go_wp2_with fail
        have H : Ext w3 _ := (Ext.refl w3).drew
        have hE3 := hid (E0.trans E3)
        clear E3
        go_region_held3 (fun w' => w'.cell? ⟨w.heap.size, 0, none⟩ = some (.int .i64 a.a) ∧ w'.cell? ⟨w.heap.size, 1, none⟩ = some (.int .i64 a.b))
          (exact ⟨e0, e1⟩)
          (first
            | (go_at_call 56; refine (cellsOf_any q n c l _ (h.ext (hE3.out.trans H)) hn (fun r hr => vR_near (hvs.out r hr))).mono ?_; rintro e w4 ⟨B1, rfl, _, b1, E⟩; replace e0 := (E.cells _ 0 hb1).trans e0; replace e1 := (E.cells _ 1 hb1).trans e1; replace hb1 := Nat.lt_of_lt_of_le hb1 E.le; replace H := H.trans E; clear E)
            | (go_at_call 96; refine (not_any B1 _ _ b1).mono ?_; rintro e w5 ⟨B2, rfl, _, b2, E⟩; replace e0 := (E.cells _ 0 hb1).trans e0; replace e1 := (E.cells _ 1 hb1).trans e1; replace hb1 := Nat.lt_of_lt_of_le hb1 E.le; replace H := H.trans E; clear E)
            | (go_at_call 97; refine (flood_any B2 _ a _ b2 hon.out).mono ?_; rintro e w6 ⟨B3, rfl, _, b3, E⟩; replace e0 := (E.cells _ 0 hb1).trans e0; replace e1 := (E.cells _ 1 hb1).trans e1; replace hb1 := Nat.lt_of_lt_of_le hb1 E.le; replace H := H.trans E; clear E)
            | (go_at_call 80; refine (region_any B3 _ _ b3).mono ?_; rintro e w7 ⟨q7, c7, rfl, o7, E⟩; replace e0 := (E.cells _ 0 hb1).trans e0; replace e1 := (E.cells _ 1 hb1).trans e1; have hz6 := H.le; replace H := H.trans E; clear E))
        have hO := hid o7
        have hEE := hid (hE3.out.trans H)
        have hle := hid (Nat.le_trans hE3.out.le hz6)
        clear o7 H hz6 e0 e1 b1 b2 b3
        go_wp2_with fail
        go_ret
        exact ⟨q7, c7, by rw [hr.out]; rfl, by rw [hr.out]; exact owns_low hO.out hle.out, hEE.out⟩
end Go.Proofs.Ythdilndfcdpeiaa
