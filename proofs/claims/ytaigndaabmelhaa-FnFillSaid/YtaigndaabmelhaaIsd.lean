/- Contracts of IsDense (program and reference), and the law FnExactIsDense over them. Condition: at most 2^20 rectangles. -/
import Derived.Test.YtaigndaabmelhaaWnd
import Derived.Test.YtaigndaabmelhaaFnR
import Derived.Test.YtaigndaabmelhaaArR
namespace Go.Proofs.Ytaigndaabmelhaa
open Go.RowKit

def isDense (l : List Q4) (s p : Int) : Bool := isReg l && wit s 4 40 && wit p 1 100 && (winL s).all fun r => denseB (covL l r) r p
theorem isReg_parts {l : List Q4} (h : isReg l = true) : l.length ≤ 3200 ∧ ∀ r ∈ l, vR r = true := vRs_parts (isReg_iff.1 h).1
theorem cov_bd6 {l : List Q4} (h : isReg l = true) {r : Q4} (hr : vR r = true) : 0 ≤ covL l r ∧ covL l r ≤ 6400 := by
  have hb := vR_iff.1 hr
  have hb2 : (-40 ≤ r.a ∧ r.c ≤ 40) ∧ (-40 ≤ r.b ∧ r.d ≤ 40) := by omega
  rw [cov_reg h r hb2]
  exact cntB_bd _ _ hb2
set_option maxRecDepth 100000 in
set_option maxHeartbeats 4000000 in
theorem isDense1_pred (b1 b2 : Nat) (q : Option Addr) (n c : Nat) (l : List Q4) (s p : Int) (w : World) (h : SlT enc4 4 w q n l) (hn : n ≤ 1048576) (hr : isReg l = true) (hs : wit s 4 40 = true) (hp : wit p 1 100 = true)
    (l1 : b1 < w.heap.size) (l2 : b2 < w.heap.size) (e1 : w.cell? ⟨b1, 0, none⟩ = some (.slice q n c)) (e2 : w.cell? ⟨b2, 0, none⟩ = some (.int .i64 p)) :
    PredR 103 #[.pointer (some ⟨b1, 0, none⟩), .pointer (some ⟨b2, 0, none⟩)] (fun x => !denseB (covL l x) x p) (winL s) w := by
  intro W x hE hx
  show Calls Try.prog 103 #[.agg #[.int .i64 x.a, .int .i64 x.b, .int .i64 x.c, .int .i64 x.d], .pointer (some ⟨b1, 0, none⟩), .pointer (some ⟨b2, 0, none⟩)] W fun e w' => e = .returned (.bool (!denseB (covL l x) x p)) ∧ Ext W w'
  rw [wit_iff] at hs hp
  have hvx := winL_in (by omega) x hx
  have hvl := (isReg_parts hr).2
  have hcb := cov_bd6 hr hvx
  obtain ⟨hcb0, hcb1⟩ := hcb
  obtain ⟨hp0, hp1⟩ := hp
  obtain ⟨V, hV⟩ : ∃ V, V = covL l x := ⟨_, rfl⟩
  have hcall := fun W' (hW : Ext W W') => coveredCells_any q n c l x W' ((h.ext hE).ext hW) hn hvl hvx
  rw [← hV] at hcall hcb0 hcb1 ⊢
  have f1 := (hE.cells b1 0 l1).trans e1
  have f2 := (hE.cells b2 0 l2).trans e2
  have k1 : b1 < W.heap.size := by have := hE.le; omega
  have k2 : b2 < W.heap.size := by have := hE.le; omega
  replace hV := hid hV
  replace hvx := hid hvx
  replace hcall := hid hcall
  clear hx hvl hs e1 e2 hE h hr
  go_enter Try.func103, Try.ntmps103
  go_wp2_with fail
  generalize hW : W.alloc _ = W0
  obtain ⟨E0, z0, b0⟩ := boxes1 hW
  clear hW
  have g := (show Blk W0 W.heap.size [_, _, _, _] _ from b0).cells
  have m0 := g 0
  have m1 := g 1
  have m2 := g 2
  have m3 := g 3
  simp only [List.getElem?_cons_zero, List.getElem?_cons_succ] at m0 m1 m2 m3
  clear g
  have f1' := (E0.cells b1 0 k1).trans f1
  have f2' := (E0.cells b2 0 k2).trans f2
  have k1' : b1 < W0.heap.size := by omega
  have k2' : b2 < W0.heap.size := by omega
  have k3' : W.heap.size < W0.heap.size := by omega
  clear f1 f2 z0 b0
  have E0 := hid E0
  refine wp_region_later (by kernel_rfl) (by kernel_rfl) ?_
  repeat (quiet_step (first | (go_at_call 96; exact later_of (hcall.out _ (E0.out.trans (Later.ok _)))) | (go_at_call 97; exact later_of (dense_any V x p _ hvx.out hcb0 hcb1 hp0 hp1))))
  refine wpQuiet_nil ?_
  rintro w2 ⟨⟨_, E2⟩, rfl⟩
  go_wp2_with fail
  go_ret
  exact ⟨rfl, E0.out.trans E2⟩
set_option maxRecDepth 100000 in
set_option maxHeartbeats 4000000 in
theorem IsDense_any (q : Option Addr) (n c : Nat) (l : List Q4) (s p : Int) (w : World) (h : SlT enc4 4 w q n l) (hn : n ≤ 1048576) :
    Calls Try.prog 54 #[.slice q n c, .int .i64 s, .int .i64 p] w fun e w' => e = .returned (.bool (isDense l s p)) ∧ Ext w w' := by
  have hr : Hid (isDense l s p = (isReg l && wit s 4 40 && wit p 1 100 && (winL s).all fun r => denseB (covL l r) r p)) := rfl
  have hc1 := fun W (hW : Ext w W) => IsRegion_any q n c l W (h.ext hW) hn
  have hc2 := fun W => within_any s 4 40 W
  have hc3 := fun W => within_any p 1 100 W
  cases h1 : isReg l with
  | false =>
    have hr2 : Hid (false = isDense l s p) := by show _ = _; rw [hr.out, h1]; rfl
    rw [h1] at hc1
    replace hc1 := hid hc1
    clear hc2 hc3 h1
    go_enter Try.func54, Try.ntmps54
    go_wp2_with fail
    refine (hc1.out _ (((Ext.refl _).alloc _).alloc _)).mono ?_
    rintro e w2 ⟨rfl, E2⟩
    go_wp2_with fail
    go_ret
    exact ⟨ret_bool hr2.out, (((Ext.refl _).alloc _).alloc _).trans E2⟩
  | true =>
    cases h2 : wit s 4 40 with
    | false =>
      have hr2 : Hid (false = isDense l s p) := by show _ = _; rw [hr.out, h1, h2]; rfl
      rw [h1] at hc1
      rw [h2] at hc2
      replace hc1 := hid hc1
      replace hc2 := hid hc2
      clear hc3 h1 h2
      go_enter Try.func54, Try.ntmps54
      go_wp2_with fail
      refine (hc1.out _ (((Ext.refl _).alloc _).alloc _)).mono ?_
      rintro e w2 ⟨rfl, E2⟩
      go_wp2_with fail
      refine (hc2.out _).mono ?_
      rintro e w3 ⟨rfl, rfl⟩
      go_wp2_with fail
      go_ret
      exact ⟨ret_bool hr2.out, (((Ext.refl _).alloc _).alloc _).trans E2⟩
    | true =>
      rw [h1] at hc1
      rw [h2] at hc2
      have hx1 := hid h1
      have hx2 := hid h2
      cases h3 : wit p 1 100 with
      | false =>
        have hr2 : Hid (false = isDense l s p) := by show _ = _; rw [hr.out, h3]; simp
        rw [h3] at hc3
        replace hc1 := hid hc1
        replace hc2 := hid hc2
        replace hc3 := hid hc3
        clear h1 h2 h3
        go_enter Try.func54, Try.ntmps54
        go_wp2_with fail
        generalize hW : (w.alloc _).alloc _ = W0
        obtain ⟨E0, z0, b1, b2⟩ := boxes2 hW
        clear hW
        replace z0 := hid z0
        have g1 := (show Blk W0 _ [_] _ from b1)
        have g2 := (show Blk W0 _ [_] _ from b2)
        clear b1 b2
        refine (hc1.out _ E0).mono ?_
        rintro e w2 ⟨rfl, E2⟩
        have k2 := (g2.ext E2).cells 0
        simp only [List.getElem?_cons_zero] at k2
        have hl2 := (g2.ext E2).lt
        go_wp2_with fail
        refine (hc2.out _).mono ?_
        rintro e w3 ⟨rfl, rfl⟩
        go_wp2_with fail
        refine (hc3.out _).mono ?_
        rintro e w3 ⟨rfl, rfl⟩
        go_wp2_with fail
        go_ret
        exact ⟨ret_bool hr2.out, E0.trans E2⟩
      | true =>
        have hr2 : Hid ((!(winL s).any fun x => !denseB (covL l x) x p) = isDense l s p) := by show _ = _; rw [hr.out, h1, h2, h3, all_not_any]; rfl
        have hx3 := hid h3
        rw [h3] at hc3
        replace hc1 := hid hc1
        replace hc2 := hid hc2
        replace hc3 := hid hc3
        have hwl := winL_len (wit_iff.1 h2).1
        clear h1 h2 h3
        go_enter Try.func54, Try.ntmps54
        go_wp2_with fail
        generalize hW : (w.alloc _).alloc _ = W0
        obtain ⟨E0, z0, b1, b2⟩ := boxes2 hW
        clear hW
        replace z0 := hid z0
        have g1 := hid (show Blk W0 w.heap.size [.slice q n c] _ from b1)
        have g2 := hid (show Blk W0 (w.heap.size + 1) [.int .i64 p] _ from b2)
        clear b1 b2
        refine (hc1.out _ E0).mono ?_
        rintro e w2 ⟨rfl, E2⟩
        have k2 := (g2.out.ext E2).cells 0
        simp only [List.getElem?_cons_zero] at k2
        have hl2 := (g2.out.ext E2).lt
        go_wp2_with fail
        refine (hc2.out _).mono ?_
        rintro e w3 ⟨rfl, rfl⟩
        go_wp2_with fail
        refine (hc3.out _).mono ?_
        rintro e w3 ⟨rfl, rfl⟩
        clear k2 hl2
        go_wp2_with fail
        refine (DensityWindows_any s _ hx2.out).mono ?_
        rintro e w4 ⟨q4, c4, rfl, o4, E4⟩
        have s4 := hid (SlT.of_owns (l := winL s) enc4_len rfl o4)
        have hE4 := hid (E2.trans E4)
        have h14 := hid (g1.out.ext hE4.out)
        have h24 := hid (g2.out.ext hE4.out)
        clear o4 E4 E2
        have hpr := isDense1_pred w.heap.size (w.heap.size + 1) q n c l s p w4 (h.ext (E0.trans hE4.out)) hn hx1.out hx2.out hx3.out h14.out.lt h24.out.lt (h14.out.cells 0) (h24.out.cells 0)
        replace hpr := hid hpr
        go_wp2_with (go_at_call 102; refine (containsFuncR_any q4 _ c4 (winL s) (fun x => !denseB (covL l x) x p) 103 _ (enters_of Try.func103 (by kernel_rfl) rfl) _ s4.out hpr.out (by omega)).mono ?_; generalize ((winL s).any fun x => !denseB (covL l x) x p) = r at hr2 ⊢; rintro e w' ⟨rfl, hE⟩)
        go_ret
        exact ⟨ret_bool hr2.out, (E0.trans hE4.out).trans hE⟩
def dT (l : List Q4) (p : Int) (r : Q4) : Bool := denseB (covL l r) r p
theorem winQ_cov {l : List Q4} (h : isReg l = true) {x y s : Int} (hx : -40 ≤ x ∧ x < 40) (hy : -40 ≤ y ∧ y < 40) (hs : 1 ≤ s) : cntB (gh (gL l)) (winQ x y s) = covL l (winQ x y s) := by
  have := vR_iff.1 (winQ_ok hx hy hs)
  rw [cov_reg h _ (by omega)]
end Go.Proofs.Ytaigndaabmelhaa
