/- The edits of shapes and labels, and of deletions. Condition: lengths that fit; the tables as they are laid; a valid library. -/
import Derived.Test.YtncmhefendhinaaGreatDoorVeo
import Derived.BigRegion
import Derived.Deep.RegionHeld3
import Derived.StillTailTactics
namespace Go.Proofs.YtncmhefendhinaaGreatDoor
open Go.RowKit Go.PlainAid
set_option linter.unusedVariables false
set_option linter.unusedSimpArgs false

set_option maxRecDepth 100000 in
set_option maxHeartbeats 4000000 in
theorem pEditOf_good3 (s : ByteArray) (ws : List ByteArray) (l : List CeD) (p q : Option Addr) (n c m d base base2 : Nat) (w : World) (hV : Vrs w) (h : SlD CeR 4 base w p n l) (hn : n ≤ 1048576) (hS : SlD (Fl encW) 1 base2 w q (m + 1) (s :: ws)) (hm : m ≤ 1048576) (hd : m + 1 ≤ d) (hws : ∀ y ∈ s :: ws, y.size ≤ 1048576) (hj : kwX s = some 3) (hrw : rwV l (kdJ 3) ws = 0) :
    Calls Tryz.prog 17 #[.agg #[.slice p n c], .slice q (m + 1) d] w fun e w' => e = .returned (.tuple #[.agg (encEd (edV l (s :: ws)).1).toArray, .int .i64 (edV l (s :: ws)).2]) ∧ Ext w w' := by
  obtain ⟨hlen, hrf⟩ := rw_ok hrw
  have hlen2 : ws.length = 6 := hlen
  clear hlen
  obtain ⟨a1, ws1, rfl⟩ : ∃ a t, ws = a :: t := by
    cases ws with
    | nil => simp at hlen2
    | cons a t => exact ⟨a, t, rfl⟩
  obtain ⟨a2, ws2, rfl⟩ : ∃ a t, ws1 = a :: t := by
    cases ws1 with
    | nil => simp at hlen2
    | cons a t => exact ⟨a, t, rfl⟩
  obtain ⟨a3, ws3, rfl⟩ : ∃ a t, ws2 = a :: t := by
    cases ws2 with
    | nil => simp at hlen2
    | cons a t => exact ⟨a, t, rfl⟩
  obtain ⟨a4, ws4, rfl⟩ : ∃ a t, ws3 = a :: t := by
    cases ws3 with
    | nil => simp at hlen2
    | cons a t => exact ⟨a, t, rfl⟩
  obtain ⟨a5, ws5, rfl⟩ : ∃ a t, ws4 = a :: t := by
    cases ws4 with
    | nil => simp at hlen2
    | cons a t => exact ⟨a, t, rfl⟩
  obtain ⟨a6, ws6, rfl⟩ : ∃ a t, ws5 = a :: t := by
    cases ws5 with
    | nil => simp at hlen2
    | cons a t => exact ⟨a, t, rfl⟩
  obtain rfl : ws6 = [] := by
    cases ws6 with
    | nil => rfl
    | cons a t => simp at hlen2
  clear hlen2
  have hmr := hid (show m = 6 by have := hS.length; simp at this; omega)
  obtain ⟨kc, ce, hkc, hce⟩ := cell_at (rwF_head hrf).1
  have hV1 := hid hkc.symm
  clear hkc
  replace hce := hid hce
  obtain ⟨V2, hV2⟩ : ∃ V, Hid (V = wN l 1 a2) := ⟨_, hid rfl⟩
  obtain ⟨V3, hV3⟩ : ∃ V, Hid (V = wN l 3 a3) := ⟨_, hid rfl⟩
  obtain ⟨V4, hV4⟩ : ∃ V, Hid (V = wN l 3 a4) := ⟨_, hid rfl⟩
  obtain ⟨V5, hV5⟩ : ∃ V, Hid (V = wN l 3 a5) := ⟨_, hid rfl⟩
  obtain ⟨V6, hV6⟩ : ∃ V, Hid (V = wN l 3 a6) := ⟨_, hid rfl⟩
  have hvs : Hid (vsV l (kdJ 3) [a1, a2, a3, a4, a5, a6] = [(kc : Int), V2, V3, V4, V5, V6]) := by
    show _ = _
    rw [hV1.out, hV2.out, hV3.out, hV4.out, hV5.out, hV6.out]
    rfl
  clear hrf
  have hl := hid h.length
  obtain ⟨b, off, y, hq, hbk, hx, y0⟩ := get_w hS (show 0 < m + 1 by omega)
  subst hq
  obtain rfl : s = y := by have := hx.out; simpa using this
  rw [Nat.add_zero] at y0
  clear hx
  have hm0 : (0 : Int) < ((m + 1 : Nat) : Int) := by omega
  have hm1 : ¬ (((m + 1 : Nat) : Int) = 0) := by omega
  have hm2 : (1 : Int) ≤ (m : Int) + 1 := by omega
  have hm3 : (1 : Int) ≤ ((m + 1 : Nat) : Int) := by omega
  go_enter Tryz.func17, Tryz.ntmps17
  go_upto_region 1 with (fail)
  generalize hW : World.alloc (World.alloc _ _) _ = W0
  obtain ⟨E0, z0, b0, b1⟩ := boxes2 hW
  clear hW z0
  replace b0 := hid (show Blk W0 (w.heap.size) [_] _ from b0)
  replace b1 := hid (show Blk W0 (w.heap.size + 1) (encEd zE) _ from b1)
  have g0 := b0.out.cells
  have l0 := b0.out.lt
  have E := Ext.refl W0
  have y1 := hid ((E0.cells _ _ hbk).trans y0)
  have hbk1 := hid (Nat.lt_of_lt_of_le hbk E0.le)
  have y2 := y1.out
  have hb2 := hbk1.out
  go_upto_region 6 with (go_at_call 31; refine (pKinds_3 s _ hj).mono ?_; rintro e w2 ⟨rfl, rfl⟩)
  have x0 := g0 0
  simp only [List.getElem?_cons_zero] at x0
  go_region_held3 (fun V => V.cell? ⟨w.heap.size, 0, none⟩ = some (.slice p n c)) (first | exact x0 | exact (E7.cells _ _ l0).trans x0) (first | ((go_at_call 32); refine (pReadW (kpJ 3) (kdJ 3) [a1, a2, a3, a4, a5, a6] l p _ n c m _ base base2 _ ((hV.ext E0).ext (Ext.refl _).drew) (h.ext CeR.ok (E0.trans (Ext.refl _).drew)) hn (tail_w (hS.ext okStr (E0.trans (Ext.refl _).drew)) hd) hm (fun y hy => hws y (List.mem_cons_of_mem _ hy)) kpJ_size3 (by decide) kpB3 kpT3).mono ?_; rw [hrw, hvs.out]; rintro e w7 ⟨q3, n3, d3, rfl, hv, E7⟩; replace hv := hid hv; generalize (ite (d = 1) _ _) = q9))
  replace E7 := (Ext.refl _).drew.trans E7
  clear g0 l0 y2 hb2 x0
  have g0 := (b0.out.ext E7).cells
  have l0 := (b0.out.ext E7).lt
  have y2 := (E7.cells _ _ hbk1.out).trans y1.out
  have hb2 := Nat.lt_of_lt_of_le hbk1.out E7.le
  obtain ⟨hn3, hv9⟩ := hv.out (by first | trivial | rfl)
  clear hv
  obtain rfl : n3 = 6 := hn3
  have hv : SlD (Fl enc1) 1 _ w7 q3 6 [(kc : Int), V2, V3, V4, V5, V6] := hv9
  obtain ⟨bq, oq, hq3, hbq⟩ := slice_at hv (by omega)
  subst hq3
  have vH0 := hid (get_i hv (k := 0) rfl)
  have vH1 := hid (get_i hv (k := 1) rfl)
  have vH2 := hid (get_i hv (k := 2) rfl)
  have vH3 := hid (get_i hv (k := 3) rfl)
  have vH4 := hid (get_i hv (k := 4) rfl)
  have vH5 := hid (get_i hv (k := 5) rfl)
  have wH1 := hid ((E7.cells _ _ hbk1.out).trans ((E0.cells _ _ hbk).trans (get_s hS (k := 1) rfl)))
  have wH2 := hid ((E7.cells _ _ hbk1.out).trans ((E0.cells _ _ hbk).trans (get_s hS (k := 2) rfl)))
  have wH3 := hid ((E7.cells _ _ hbk1.out).trans ((E0.cells _ _ hbk).trans (get_s hS (k := 3) rfl)))
  have wH4 := hid ((E7.cells _ _ hbk1.out).trans ((E0.cells _ _ hbk).trans (get_s hS (k := 4) rfl)))
  have wH5 := hid ((E7.cells _ _ hbk1.out).trans ((E0.cells _ _ hbk).trans (get_s hS (k := 5) rfl)))
  have wH6 := hid ((E7.cells _ _ hbk1.out).trans ((E0.cells _ _ hbk).trans (get_s hS (k := 6) rfl)))
  have hbqH := hid hbq
  have hbH := hid hb2
  clear hv hbq
  have t8 := hid (there_blk (((Blk.new w7 (encEd zE) 39).alloc (.cells zC.toArray 72))))
  go_upto_region 10 with (first | (refine wpList_build rfl 39 #[] rfl [] rfl (encEd zE).toArray built_zE ?_) | (refine wpList_build rfl 72 #[] rfl [] rfl zC.toArray built_zC ?_) | (((with_reducible refine at_store ?_); refine wpList_store_mid rfl 39 (Operand.tmp 10) _ rfl (w7.heap.size) 0 (encEd zE).toArray rfl rfl t8.out (sz_Ed _) (one_Edit _) ?_); generalize hV8 : World.setCells _ _ _ _ = W8; obtain ⟨bo8, bc8, E8⟩ := two_new hV8; clear hV8; have t9 := hid (there_blk bc8)) | ((with_reducible refine at_store ?_); refine wpList_store_mid rfl 72 (Operand.tmp 11) _ rfl (w7.heap.size + 1) 0 zC.toArray rfl rfl t9.out sz_Ce one_zC ?_))
  generalize hV9 : World.setCells _ _ _ _ = W9
  have bO := hid (show Blk W9 w7.heap.size (encEd zE) 39 by rw [← hV9]; exact bo8.mut (Mut.setCells (S := [w7.heap.size + 1]) (by simp) _ _ _ (Mut.refl _ _)) (by simp))
  have bC := hid (show Blk W9 (w7.heap.size + 1) zC 72 by rw [← hV9]; exact bc8.setAll rfl)
  have E9 := hid (show Ext w7 W9 by rw [← hV9]; exact ext_setCells (Nat.le_succ _) _ _ _ E8)
  clear hV9 bo8 bc8 E8 t8 t9 g0 l0 y2 hb2
  have hbt := get_bt (kpJ 3)
  have hk0 : (0 : Int) < (kpJ 3).size := by rw [kpJ_size3]; decide
  have hk1 : 0 < (kpJ 3).size := by rw [kpJ_size3]; decide
  have hkb : bt (kpJ 3) 0 = 99 := (kpB3 0 0 rfl).2
  have hs := kw_3 hj
  have x0 := (E9.out.cells _ _ ((b0.out.ext E7).lt)).trans (((b0.out.ext E7).cells) 0)
  have l0 := Nat.lt_of_lt_of_le ((b0.out.ext E7).lt) E9.out.le
  simp only [List.getElem?_cons_zero] at x0
  have y2 := (E9.out.cells _ _ hbH.out).trans ((E7.cells _ _ hbk1.out).trans y1.out)
  have hb2 := Nat.lt_of_lt_of_le hbH.out E9.out.le
  have v0 := (E9.out.cells _ _ hbqH.out).trans vH0.out
  have v1 := (E9.out.cells _ _ hbqH.out).trans vH1.out
  have v2 := (E9.out.cells _ _ hbqH.out).trans vH2.out
  have v3 := (E9.out.cells _ _ hbqH.out).trans vH3.out
  have v4 := (E9.out.cells _ _ hbqH.out).trans vH4.out
  have v5 := (E9.out.cells _ _ hbqH.out).trans vH5.out
  rw [Nat.add_zero] at v0
  have hbq := Nat.lt_of_lt_of_le hbqH.out E9.out.le
  have z1 := (E9.out.cells _ _ hbH.out).trans wH1.out
  have z2 := (E9.out.cells _ _ hbH.out).trans wH2.out
  have z3 := (E9.out.cells _ _ hbH.out).trans wH3.out
  have z4 := (E9.out.cells _ _ hbH.out).trans wH4.out
  have z5 := (E9.out.cells _ _ hbH.out).trans wH5.out
  have z6 := (E9.out.cells _ _ hbH.out).trans wH6.out
  have hi1 : (1 : Int) < (m : Int) + 1 := by have := hmr.out; omega
  have hi2 : (2 : Int) < (m : Int) + 1 := by have := hmr.out; omega
  have hi3 : (3 : Int) < (m : Int) + 1 := by have := hmr.out; omega
  have hi4 : (4 : Int) < (m : Int) + 1 := by have := hmr.out; omega
  have hi5 : (5 : Int) < (m : Int) + 1 := by have := hmr.out; omega
  have hi6 : (6 : Int) < (m : Int) + 1 := by have := hmr.out; omega
  have ne1 : b ≠ w7.heap.size := by have := hbH.out; omega
  have ne2 : bq ≠ w7.heap.size := by have := hbqH.out; omega
  have ne3 : w.heap.size ≠ w7.heap.size := by have := (b0.out.ext E7).lt; omega
  have ne4 : w7.heap.size + 1 ≠ w7.heap.size := by omega
  have bO2 := hid (show Blk W9 w7.heap.size [.int .i64 0, .int .i64 0, .int .i64 0, .string ⟨#[]⟩, .int .i64 0, .int .i64 0, .int .i64 0, .int .i64 0, .int .i64 0, .int .i64 0, .int .i64 0, .int .i64 0, .string ⟨#[]⟩, .int .i64 0, .int .i64 0, .int .i64 0, .int .i64 0, .int .i64 0, .int .i64 0, .int .i64 0, .int .i64 0] 39 from bO.out)
  have bC2 := hid (show Blk W9 (w7.heap.size + 1) [.string ⟨#[]⟩, .slice none 0 0, .slice none 0 0, .slice none 0 0] 72 from bC.out)
  clear bO bC
  have bO := bO2
  have bC := bC2
  clear bO2 bC2
  have gO : ∀ j, W9.cell? ⟨w7.heap.size, j, none⟩ = [.int .i64 0, .int .i64 0, .int .i64 0, .string ⟨#[]⟩, .int .i64 0, .int .i64 0, .int .i64 0, .int .i64 0, .int .i64 0, .int .i64 0, .int .i64 0, .int .i64 0, .string ⟨#[]⟩, .int .i64 0, .int .i64 0, .int .i64 0, .int .i64 0, .int .i64 0, .int .i64 0, .int .i64 0, .int .i64 0][j]? := bO.out.cells
  have fO := bO.out.free
  have lO := bO.out.lt
  have gC : ∀ j, W9.cell? ⟨w7.heap.size + 1, j, none⟩ = [.string ⟨#[]⟩, .slice none 0 0, .slice none 0 0, .slice none 0 0][j]? := bC.out.cells
  have fC := bC.out.free
  have lC := bC.out.lt
  go_upto_region 12 with (fail)
  clear gO fO lO gC fC lC x0 l0 y2 hb2 hbq v0 v1 v2 v3 v4 v5 z1 z2 z3 z4 z5 z6
  have bO2 := (bO.out.set 1 (.int .i64 (kc : Int)))
  simp only [List.set_cons_zero, List.set_cons_succ] at bO2
  have bC2 := (bC.out.other (B := w7.heap.size) 1 (.int .i64 (kc : Int)) (by omega))
  have E92 := (E9.out.setCell (p := ⟨w7.heap.size, 1, none⟩) (Nat.le_refl _) (.int .i64 (kc : Int)))
  generalize hV : World.setCell _ _ _ = Wn1
  have bO3 := hid (show Blk Wn1 w7.heap.size [.int .i64 0, .int .i64 (kc : Int), .int .i64 0, .string ⟨#[]⟩, .int .i64 0, .int .i64 0, .int .i64 0, .int .i64 0, .int .i64 0, .int .i64 0, .int .i64 0, .int .i64 0, .string ⟨#[]⟩, .int .i64 0, .int .i64 0, .int .i64 0, .int .i64 0, .int .i64 0, .int .i64 0, .int .i64 0, .int .i64 0] 39 from by rw [← hV]; exact bO2)
  have bC3 := hid (show Blk Wn1 (w7.heap.size + 1) [.string ⟨#[]⟩, .slice none 0 0, .slice none 0 0, .slice none 0 0] 72 from by rw [← hV]; exact bC2)
  have E93 := hid (show Ext w7 Wn1 from by rw [← hV]; exact E92)
  clear hV bO bC E9 bO2 bC2 E92
  have bO := bO3
  have bC := bC3
  have E9 := E93
  clear bO3 bC3 E93
  have x0 := (E9.out.cells _ _ ((b0.out.ext E7).lt)).trans (((b0.out.ext E7).cells) 0)
  have l0 := Nat.lt_of_lt_of_le ((b0.out.ext E7).lt) E9.out.le
  simp only [List.getElem?_cons_zero] at x0
  have y2 := (E9.out.cells _ _ hbH.out).trans ((E7.cells _ _ hbk1.out).trans y1.out)
  have hb2 := Nat.lt_of_lt_of_le hbH.out E9.out.le
  have v0 := (E9.out.cells _ _ hbqH.out).trans vH0.out
  have v1 := (E9.out.cells _ _ hbqH.out).trans vH1.out
  have v2 := (E9.out.cells _ _ hbqH.out).trans vH2.out
  have v3 := (E9.out.cells _ _ hbqH.out).trans vH3.out
  have v4 := (E9.out.cells _ _ hbqH.out).trans vH4.out
  have v5 := (E9.out.cells _ _ hbqH.out).trans vH5.out
  rw [Nat.add_zero] at v0
  have hbq := Nat.lt_of_lt_of_le hbqH.out E9.out.le
  have z1 := (E9.out.cells _ _ hbH.out).trans wH1.out
  have z2 := (E9.out.cells _ _ hbH.out).trans wH2.out
  have z3 := (E9.out.cells _ _ hbH.out).trans wH3.out
  have z4 := (E9.out.cells _ _ hbH.out).trans wH4.out
  have z5 := (E9.out.cells _ _ hbH.out).trans wH5.out
  have z6 := (E9.out.cells _ _ hbH.out).trans wH6.out
  have gO : ∀ j, Wn1.cell? ⟨w7.heap.size, j, none⟩ = [.int .i64 0, .int .i64 (kc : Int), .int .i64 0, .string ⟨#[]⟩, .int .i64 0, .int .i64 0, .int .i64 0, .int .i64 0, .int .i64 0, .int .i64 0, .int .i64 0, .int .i64 0, .string ⟨#[]⟩, .int .i64 0, .int .i64 0, .int .i64 0, .int .i64 0, .int .i64 0, .int .i64 0, .int .i64 0, .int .i64 0][j]? := bO.out.cells
  have fO := bO.out.free
  have lO := bO.out.lt
  have gC : ∀ j, Wn1.cell? ⟨w7.heap.size + 1, j, none⟩ = [.string ⟨#[]⟩, .slice none 0 0, .slice none 0 0, .slice none 0 0][j]? := bC.out.cells
  have fC := bC.out.free
  have lC := bC.out.lt
  have hkn : kc < n := by have := (List.getElem?_eq_some_iff.1 hce.out).1; have := hl.out; omega
  have hknI : (kc : Int) < n := by omega
  obtain ⟨bl, ofl, ye, cs, hpl, hbl, hxl, hcs, hcl⟩ := (h.ext CeR.ok (E0.trans (E7.trans E9.out))).get hkn
  subst hpl
  obtain rfl : ce = ye := Option.some.inj (hce.out.symm.trans hxl.out)
  obtain ⟨p1, n1, c1, p2, n2, c2, p3, n3, c3, rfl, s1, s2, s3⟩ := hcs
  have c0 := hcl 0 _ rfl
  rw [Nat.add_zero] at c0
  have c10 := hcl 1 _ rfl
  have c20 := hcl 2 _ rfl
  have c30 := hcl 3 _ rfl
  have ln1 := hid s1.length
  have ln2 := hid s2.length
  have ln3 := hid s3.length
  clear hcl s1 s2 s3
  go_region
  clear c0 c10 c20 c30 hbl
  clear gO fO lO gC fC lC x0 l0 y2 hb2 hbq v0 v1 v2 v3 v4 v5 z1 z2 z3 z4 z5 z6
  have bO2 := Blk.drew ((((bO.out.other (B := w7.heap.size + 1) 0 (.string ce.s) (by omega)).other (B := w7.heap.size + 1) 1 (.slice p1 n1 c1) (by omega)).other (B := w7.heap.size + 1) 2 (.slice p2 n2 c2) (by omega)).other (B := w7.heap.size + 1) 3 (.slice p3 n3 c3) (by omega))
  have bC2 := Blk.drew ((((bC.out.set 0 (.string ce.s)).set 1 (.slice p1 n1 c1)).set 2 (.slice p2 n2 c2)).set 3 (.slice p3 n3 c3))
  simp only [List.set_cons_zero, List.set_cons_succ] at bC2
  have E92 := Ext.drew ((((E9.out.setCell (p := ⟨w7.heap.size + 1, 0, none⟩) (Nat.le_succ _) (.string ce.s)).setCell (p := ⟨w7.heap.size + 1, 1, none⟩) (Nat.le_succ _) (.slice p1 n1 c1)).setCell (p := ⟨w7.heap.size + 1, 2, none⟩) (Nat.le_succ _) (.slice p2 n2 c2)).setCell (p := ⟨w7.heap.size + 1, 3, none⟩) (Nat.le_succ _) (.slice p3 n3 c3))
  generalize hV : World.drew _ = Wn2
  have bO3 := hid (show Blk Wn2 w7.heap.size [.int .i64 0, .int .i64 (kc : Int), .int .i64 0, .string ⟨#[]⟩, .int .i64 0, .int .i64 0, .int .i64 0, .int .i64 0, .int .i64 0, .int .i64 0, .int .i64 0, .int .i64 0, .string ⟨#[]⟩, .int .i64 0, .int .i64 0, .int .i64 0, .int .i64 0, .int .i64 0, .int .i64 0, .int .i64 0, .int .i64 0] 39 from by rw [← hV]; exact bO2)
  have bC3 := hid (show Blk Wn2 (w7.heap.size + 1) [.string ce.s, .slice p1 n1 c1, .slice p2 n2 c2, .slice p3 n3 c3] 72 from by rw [← hV]; exact bC2)
  have E93 := hid (show Ext w7 Wn2 from by rw [← hV]; exact E92)
  clear hV bO bC E9 bO2 bC2 E92
  have bO := bO3
  have bC := bC3
  have E9 := E93
  clear bO3 bC3 E93
  have x0 := (E9.out.cells _ _ ((b0.out.ext E7).lt)).trans (((b0.out.ext E7).cells) 0)
  have l0 := Nat.lt_of_lt_of_le ((b0.out.ext E7).lt) E9.out.le
  simp only [List.getElem?_cons_zero] at x0
  have y2 := (E9.out.cells _ _ hbH.out).trans ((E7.cells _ _ hbk1.out).trans y1.out)
  have hb2 := Nat.lt_of_lt_of_le hbH.out E9.out.le
  have v0 := (E9.out.cells _ _ hbqH.out).trans vH0.out
  have v1 := (E9.out.cells _ _ hbqH.out).trans vH1.out
  have v2 := (E9.out.cells _ _ hbqH.out).trans vH2.out
  have v3 := (E9.out.cells _ _ hbqH.out).trans vH3.out
  have v4 := (E9.out.cells _ _ hbqH.out).trans vH4.out
  have v5 := (E9.out.cells _ _ hbqH.out).trans vH5.out
  rw [Nat.add_zero] at v0
  have hbq := Nat.lt_of_lt_of_le hbqH.out E9.out.le
  have z1 := (E9.out.cells _ _ hbH.out).trans wH1.out
  have z2 := (E9.out.cells _ _ hbH.out).trans wH2.out
  have z3 := (E9.out.cells _ _ hbH.out).trans wH3.out
  have z4 := (E9.out.cells _ _ hbH.out).trans wH4.out
  have z5 := (E9.out.cells _ _ hbH.out).trans wH5.out
  have z6 := (E9.out.cells _ _ hbH.out).trans wH6.out
  have gO : ∀ j, Wn2.cell? ⟨w7.heap.size, j, none⟩ = [.int .i64 0, .int .i64 (kc : Int), .int .i64 0, .string ⟨#[]⟩, .int .i64 0, .int .i64 0, .int .i64 0, .int .i64 0, .int .i64 0, .int .i64 0, .int .i64 0, .int .i64 0, .string ⟨#[]⟩, .int .i64 0, .int .i64 0, .int .i64 0, .int .i64 0, .int .i64 0, .int .i64 0, .int .i64 0, .int .i64 0][j]? := bO.out.cells
  have fO := bO.out.free
  have lO := bO.out.lt
  have gC : ∀ j, Wn2.cell? ⟨w7.heap.size + 1, j, none⟩ = [.string ce.s, .slice p1 n1 c1, .slice p2 n2 c2, .slice p3 n3 c3][j]? := bC.out.cells
  have fC := bC.out.free
  have lC := bC.out.lt
  go_upto_region 21 with (fail)
  go_region
  clear gO fO lO gC fC lC x0 l0 y2 hb2 hbq v0 v1 v2 v3 v4 v5 z1 z2 z3 z4 z5 z6
  have bO2 := Blk.drew ((bO.out.set 0 (.int .i64 1)).set 2 (.int .i64 (n1 : Int)))
  simp only [List.set_cons_zero, List.set_cons_succ] at bO2
  have bC2 := Blk.drew ((bC.out.other (B := w7.heap.size) 0 (.int .i64 1) (by omega)).other (B := w7.heap.size) 2 (.int .i64 (n1 : Int)) (by omega))
  have E92 := Ext.drew ((E9.out.setCell (p := ⟨w7.heap.size, 0, none⟩) (Nat.le_refl _) (.int .i64 1)).setCell (p := ⟨w7.heap.size, 2, none⟩) (Nat.le_refl _) (.int .i64 (n1 : Int)))
  generalize hV : World.drew _ = Wn3
  have bO3 := hid (show Blk Wn3 w7.heap.size [.int .i64 1, .int .i64 (kc : Int), .int .i64 (n1 : Int), .string ⟨#[]⟩, .int .i64 0, .int .i64 0, .int .i64 0, .int .i64 0, .int .i64 0, .int .i64 0, .int .i64 0, .int .i64 0, .string ⟨#[]⟩, .int .i64 0, .int .i64 0, .int .i64 0, .int .i64 0, .int .i64 0, .int .i64 0, .int .i64 0, .int .i64 0] 39 from by rw [← hV]; exact bO2)
  have bC3 := hid (show Blk Wn3 (w7.heap.size + 1) [.string ce.s, .slice p1 n1 c1, .slice p2 n2 c2, .slice p3 n3 c3] 72 from by rw [← hV]; exact bC2)
  have E93 := hid (show Ext w7 Wn3 from by rw [← hV]; exact E92)
  clear hV bO bC E9 bO2 bC2 E92
  have bO := bO3
  have bC := bC3
  have E9 := E93
  clear bO3 bC3 E93
  have x0 := (E9.out.cells _ _ ((b0.out.ext E7).lt)).trans (((b0.out.ext E7).cells) 0)
  have l0 := Nat.lt_of_lt_of_le ((b0.out.ext E7).lt) E9.out.le
  simp only [List.getElem?_cons_zero] at x0
  have y2 := (E9.out.cells _ _ hbH.out).trans ((E7.cells _ _ hbk1.out).trans y1.out)
  have hb2 := Nat.lt_of_lt_of_le hbH.out E9.out.le
  have v0 := (E9.out.cells _ _ hbqH.out).trans vH0.out
  have v1 := (E9.out.cells _ _ hbqH.out).trans vH1.out
  have v2 := (E9.out.cells _ _ hbqH.out).trans vH2.out
  have v3 := (E9.out.cells _ _ hbqH.out).trans vH3.out
  have v4 := (E9.out.cells _ _ hbqH.out).trans vH4.out
  have v5 := (E9.out.cells _ _ hbqH.out).trans vH5.out
  rw [Nat.add_zero] at v0
  have hbq := Nat.lt_of_lt_of_le hbqH.out E9.out.le
  have z1 := (E9.out.cells _ _ hbH.out).trans wH1.out
  have z2 := (E9.out.cells _ _ hbH.out).trans wH2.out
  have z3 := (E9.out.cells _ _ hbH.out).trans wH3.out
  have z4 := (E9.out.cells _ _ hbH.out).trans wH4.out
  have z5 := (E9.out.cells _ _ hbH.out).trans wH5.out
  have z6 := (E9.out.cells _ _ hbH.out).trans wH6.out
  have gO : ∀ j, Wn3.cell? ⟨w7.heap.size, j, none⟩ = [.int .i64 1, .int .i64 (kc : Int), .int .i64 (n1 : Int), .string ⟨#[]⟩, .int .i64 0, .int .i64 0, .int .i64 0, .int .i64 0, .int .i64 0, .int .i64 0, .int .i64 0, .int .i64 0, .string ⟨#[]⟩, .int .i64 0, .int .i64 0, .int .i64 0, .int .i64 0, .int .i64 0, .int .i64 0, .int .i64 0, .int .i64 0][j]? := bO.out.cells
  have fO := bO.out.free
  have lO := bO.out.lt
  have gC : ∀ j, Wn3.cell? ⟨w7.heap.size + 1, j, none⟩ = [.string ce.s, .slice p1 n1 c1, .slice p2 n2 c2, .slice p3 n3 c3][j]? := bC.out.cells
  have fC := bC.out.free
  have lC := bC.out.lt
  go_upto_region 22 with (fail)
  refine wp_region_still_tail 18 (by kernel_rfl) (by kernel_rfl) ?_
  simp only [List.take_succ_cons, List.take_zero, List.drop_succ_cons, List.drop_zero]
  iterate 18 still_step
  refine wpStill_nil ?_
  change wpList _ _ _ _ _ Wn3.drew
  go_upto_region 38 with (fail)
  clear gO fO lO gC fC lC x0 l0 y2 hb2 hbq v0 v1 v2 v3 v4 v5 z1 z2 z3 z4 z5 z6
  have bO2 := Blk.drew (((((bO.out.set 4 (.int .i64 V2)).set 5 (.int .i64 V3)).set 6 (.int .i64 V4)).set 7 (.int .i64 V5)).set 8 (.int .i64 V6))
  simp only [List.set_cons_zero, List.set_cons_succ] at bO2
  have bC2 := Blk.drew (((((bC.out.other (B := w7.heap.size) 4 (.int .i64 V2) (by omega)).other (B := w7.heap.size) 5 (.int .i64 V3) (by omega)).other (B := w7.heap.size) 6 (.int .i64 V4) (by omega)).other (B := w7.heap.size) 7 (.int .i64 V5) (by omega)).other (B := w7.heap.size) 8 (.int .i64 V6) (by omega))
  have E92 := Ext.drew (((((E9.out.setCell (p := ⟨w7.heap.size, 4, none⟩) (Nat.le_refl _) (.int .i64 V2)).setCell (p := ⟨w7.heap.size, 5, none⟩) (Nat.le_refl _) (.int .i64 V3)).setCell (p := ⟨w7.heap.size, 6, none⟩) (Nat.le_refl _) (.int .i64 V4)).setCell (p := ⟨w7.heap.size, 7, none⟩) (Nat.le_refl _) (.int .i64 V5)).setCell (p := ⟨w7.heap.size, 8, none⟩) (Nat.le_refl _) (.int .i64 V6))
  generalize hV : World.drew _ = Wn4
  have bO3 := hid (show Blk Wn4 w7.heap.size [.int .i64 1, .int .i64 (kc : Int), .int .i64 (n1 : Int), .string ⟨#[]⟩, .int .i64 V2, .int .i64 V3, .int .i64 V4, .int .i64 V5, .int .i64 V6, .int .i64 0, .int .i64 0, .int .i64 0, .string ⟨#[]⟩, .int .i64 0, .int .i64 0, .int .i64 0, .int .i64 0, .int .i64 0, .int .i64 0, .int .i64 0, .int .i64 0] 39 from by rw [← hV]; exact bO2)
  have bC3 := hid (show Blk Wn4 (w7.heap.size + 1) [.string ce.s, .slice p1 n1 c1, .slice p2 n2 c2, .slice p3 n3 c3] 72 from by rw [← hV]; exact bC2)
  have E93 := hid (show Ext w7 Wn4 from by rw [← hV]; exact E92)
  clear hV bO bC E9 bO2 bC2 E92
  have bO := bO3
  have bC := bC3
  have E9 := E93
  clear bO3 bC3 E93
  have x0 := (E9.out.cells _ _ ((b0.out.ext E7).lt)).trans (((b0.out.ext E7).cells) 0)
  have l0 := Nat.lt_of_lt_of_le ((b0.out.ext E7).lt) E9.out.le
  simp only [List.getElem?_cons_zero] at x0
  have y2 := (E9.out.cells _ _ hbH.out).trans ((E7.cells _ _ hbk1.out).trans y1.out)
  have hb2 := Nat.lt_of_lt_of_le hbH.out E9.out.le
  have v0 := (E9.out.cells _ _ hbqH.out).trans vH0.out
  have v1 := (E9.out.cells _ _ hbqH.out).trans vH1.out
  have v2 := (E9.out.cells _ _ hbqH.out).trans vH2.out
  have v3 := (E9.out.cells _ _ hbqH.out).trans vH3.out
  have v4 := (E9.out.cells _ _ hbqH.out).trans vH4.out
  have v5 := (E9.out.cells _ _ hbqH.out).trans vH5.out
  rw [Nat.add_zero] at v0
  have hbq := Nat.lt_of_lt_of_le hbqH.out E9.out.le
  have z1 := (E9.out.cells _ _ hbH.out).trans wH1.out
  have z2 := (E9.out.cells _ _ hbH.out).trans wH2.out
  have z3 := (E9.out.cells _ _ hbH.out).trans wH3.out
  have z4 := (E9.out.cells _ _ hbH.out).trans wH4.out
  have z5 := (E9.out.cells _ _ hbH.out).trans wH5.out
  have z6 := (E9.out.cells _ _ hbH.out).trans wH6.out
  have gO : ∀ j, Wn4.cell? ⟨w7.heap.size, j, none⟩ = [.int .i64 1, .int .i64 (kc : Int), .int .i64 (n1 : Int), .string ⟨#[]⟩, .int .i64 V2, .int .i64 V3, .int .i64 V4, .int .i64 V5, .int .i64 V6, .int .i64 0, .int .i64 0, .int .i64 0, .string ⟨#[]⟩, .int .i64 0, .int .i64 0, .int .i64 0, .int .i64 0, .int .i64 0, .int .i64 0, .int .i64 0, .int .i64 0][j]? := bO.out.cells
  have fO := bO.out.free
  have lO := bO.out.lt
  have gC : ∀ j, Wn4.cell? ⟨w7.heap.size + 1, j, none⟩ = [.string ce.s, .slice p1 n1 c1, .slice p2 n2 c2, .slice p3 n3 c3][j]? := bC.out.cells
  have fC := bC.out.free
  have lC := bC.out.lt
  clear gO fO lO gC fC lC x0 l0 y2 hb2 hbq v0 v1 v2 v3 v4 v5 z1 z2 z3 z4 z5 z6
  have bE := hid (show Blk Wn4 w7.heap.size (encEd ⟨1, (kc : Int), (n1 : Int), emp, ⟨V2, ⟨V3, V4, V5, V6⟩⟩, zL, zI⟩) 39 from bO.out)
  have rE := hid (range_blk bE.out)
  have hmk : Hid (mkE l 3 [a1, a2, a3, a4, a5, a6] [(kc : Int), V2, V3, V4, V5, V6] = ⟨1, (kc : Int), (n1 : Int), emp, ⟨V2, ⟨V3, V4, V5, V6⟩⟩, zL, zI⟩) := by show _ = _; (show (⟨1, (kc : Int), ((cAt l (kc : Int)).shs.length : Int), emp, ⟨V2, ⟨V3, V4, V5, V6⟩⟩, zL, zI⟩ : EdD) = _; rw [cAt_nat hce.out, ln1.out])
  have hcI : Hid (Calls Tryz.prog 33 #[.agg (encEd ⟨1, (kc : Int), (n1 : Int), emp, ⟨V2, ⟨V3, V4, V5, V6⟩⟩, zL, zI⟩).toArray] Wn4 fun e w' => e = .returned (.bool (edP ⟨1, (kc : Int), (n1 : Int), emp, ⟨V2, ⟨V3, V4, V5, V6⟩⟩, zL, zI⟩)) ∧ Ext Wn4 w') := hid (pEdit_any _ _ _ _ _ _ _ _ (by show (0 : Nat) ≤ 9223372036854775807; exact Nat.zero_le _) (by show (0 : Nat) ≤ 9223372036854775807; exact Nat.zero_le _))
  rw [← hvs.out] at hmk
  cases hP : edP ⟨1, (kc : Int), (n1 : Int), emp, ⟨V2, ⟨V3, V4, V5, V6⟩⟩, zL, zI⟩ with
  | true =>
    have hr := hid (edV_ok (l := l) hj hrw (by rw [hmk.out]; exact hP))
    rw [hmk.out] at hr
    rw [hP] at hcI
    clear hP
    go_wp2_with (first | (refine wpList_build rfl 39 #[] rfl [] rfl (encEd zE).toArray built_zE ?_) | ((with_reducible refine at_dst 193 ?_); refine wpList_load_mid rfl 39 (Operand.tmp 10) rfl (w7.heap.size) 0 rfl (encEd ⟨1, (kc : Int), (n1 : Int), emp, ⟨V2, ⟨V3, V4, V5, V6⟩⟩, zL, zI⟩) _ rE.out Tryz.underlying39 rfl (sz_Ed2 _) ?_) | (go_at_call 33; refine hcI.out.mono ?_; rintro e w8 ⟨rfl, E8⟩; have rE8 := hid (range_blk (bE.out.ext E8)); have r1 := hid (there_blk ((b1.out.ext E7).ext (E9.out.trans E8)))) | ((with_reducible refine at_dst 197 ?_); refine wpList_load_mid rfl 39 (Operand.tmp 10) rfl (w7.heap.size) 0 rfl (encEd ⟨1, (kc : Int), (n1 : Int), emp, ⟨V2, ⟨V3, V4, V5, V6⟩⟩, zL, zI⟩) _ rE8.out Tryz.underlying39 rfl (sz_Ed2 _) ?_) | ((with_reducible refine at_store ?_); refine wpList_store_mid rfl 39 (Operand.tmp 4) _ rfl (w.heap.size + 1) 0 (encEd ⟨1, (kc : Int), (n1 : Int), emp, ⟨V2, ⟨V3, V4, V5, V6⟩⟩, zL, zI⟩).toArray rfl rfl r1.out (sz_Ed _) (one_Edit _) ?_))
    generalize hV9 : World.setCells _ _ _ _ = W9
    have kB : Blk W9 (w.heap.size + 1) (encEd ⟨1, (kc : Int), (n1 : Int), emp, ⟨V2, ⟨V3, V4, V5, V6⟩⟩, zL, zI⟩) 39 := by rw [← hV9]; exact ((b1.out.ext E7).ext (E9.out.trans E8)).setAll (vs := encEd ⟨1, (kc : Int), (n1 : Int), emp, ⟨V2, ⟨V3, V4, V5, V6⟩⟩, zL, zI⟩) rfl
    have hE2 : Ext w W9 := by rw [← hV9]; exact ext_setCells (by omega) _ _ _ (E0.trans (E7.trans (E9.out.trans E8)))
    clear hV9
    exact bodyPost_ret (v := .tuple #[.agg (encEd ⟨1, (kc : Int), (n1 : Int), emp, ⟨V2, ⟨V3, V4, V5, V6⟩⟩, zL, zI⟩).toArray, .int .i64 0]) (results_cell_tmp Tryz.results17 _ _ (w.heap.size + 1) 39 (encEd ⟨1, (kc : Int), (n1 : Int), emp, ⟨V2, ⟨V3, V4, V5, V6⟩⟩, zL, zI⟩).toArray (0, 0) _ rfl kB Tryz.underlying39 rfl (sz_Ed _)) rfl ⟨by rw [hr.out], hE2⟩
  | false =>
    have hr := hid (edV_inv (l := l) hj hrw (by rw [hmk.out]; exact hP))
    rw [hP] at hcI
    clear hP
    go_wp2_with (first | (refine wpList_build rfl 39 #[] rfl [] rfl (encEd zE).toArray built_zE ?_) | ((with_reducible refine at_dst 193 ?_); refine wpList_load_mid rfl 39 (Operand.tmp 10) rfl (w7.heap.size) 0 rfl (encEd ⟨1, (kc : Int), (n1 : Int), emp, ⟨V2, ⟨V3, V4, V5, V6⟩⟩, zL, zI⟩) _ rE.out Tryz.underlying39 rfl (sz_Ed2 _) ?_) | (go_at_call 33; refine hcI.out.mono ?_; rintro e w8 ⟨rfl, E8⟩; have r1 := hid (there_blk ((b1.out.ext E7).ext (E9.out.trans E8)))) | ((with_reducible refine at_store ?_); refine wpList_store_mid rfl 39 (Operand.tmp 4) _ rfl (w.heap.size + 1) 0 (encEd zE).toArray rfl rfl r1.out (sz_Ed _) (one_Edit _) ?_))
    generalize hV9 : World.setCells _ _ _ _ = W9
    have kB : Blk W9 (w.heap.size + 1) (encEd zE) 39 := by rw [← hV9]; exact ((b1.out.ext E7).ext (E9.out.trans E8)).setAll (vs := encEd zE) rfl
    have hE2 : Ext w W9 := by rw [← hV9]; exact ext_setCells (by omega) _ _ _ (E0.trans (E7.trans (E9.out.trans E8)))
    clear hV9
    exact bodyPost_ret (v := .tuple #[.agg (encEd zE).toArray, .int .i64 1]) (results_cell_tmp Tryz.results17 _ _ (w.heap.size + 1) 39 (encEd zE).toArray (0, 0) _ rfl kB Tryz.underlying39 rfl (sz_Ed _)) rfl ⟨by rw [hr.out], hE2⟩

set_option maxRecDepth 100000 in
set_option maxHeartbeats 4000000 in
theorem pEditOf_good4 (s : ByteArray) (ws : List ByteArray) (l : List CeD) (p q : Option Addr) (n c m d base base2 : Nat) (w : World) (hV : Vrs w) (h : SlD CeR 4 base w p n l) (hn : n ≤ 1048576) (hS : SlD (Fl encW) 1 base2 w q (m + 1) (s :: ws)) (hm : m ≤ 1048576) (hd : m + 1 ≤ d) (hws : ∀ y ∈ s :: ws, y.size ≤ 1048576) (hj : kwX s = some 4) (hrw : rwV l (kdJ 4) ws = 0) :
    Calls Tryz.prog 17 #[.agg #[.slice p n c], .slice q (m + 1) d] w fun e w' => e = .returned (.tuple #[.agg (encEd (edV l (s :: ws)).1).toArray, .int .i64 (edV l (s :: ws)).2]) ∧ Ext w w' := by
  obtain ⟨hlen, hrf⟩ := rw_ok hrw
  have hlen2 : ws.length = 5 := hlen
  clear hlen
  obtain ⟨a1, ws1, rfl⟩ : ∃ a t, ws = a :: t := by
    cases ws with
    | nil => simp at hlen2
    | cons a t => exact ⟨a, t, rfl⟩
  obtain ⟨a2, ws2, rfl⟩ : ∃ a t, ws1 = a :: t := by
    cases ws1 with
    | nil => simp at hlen2
    | cons a t => exact ⟨a, t, rfl⟩
  obtain ⟨a3, ws3, rfl⟩ : ∃ a t, ws2 = a :: t := by
    cases ws2 with
    | nil => simp at hlen2
    | cons a t => exact ⟨a, t, rfl⟩
  obtain ⟨a4, ws4, rfl⟩ : ∃ a t, ws3 = a :: t := by
    cases ws3 with
    | nil => simp at hlen2
    | cons a t => exact ⟨a, t, rfl⟩
  obtain ⟨a5, ws5, rfl⟩ : ∃ a t, ws4 = a :: t := by
    cases ws4 with
    | nil => simp at hlen2
    | cons a t => exact ⟨a, t, rfl⟩
  obtain rfl : ws5 = [] := by
    cases ws5 with
    | nil => rfl
    | cons a t => simp at hlen2
  clear hlen2
  have hmr := hid (show m = 5 by have := hS.length; simp at this; omega)
  obtain ⟨kc, ce, hkc, hce⟩ := cell_at (rwF_head hrf).1
  have hV1 := hid hkc.symm
  clear hkc
  replace hce := hid hce
  obtain ⟨V2, hV2⟩ : ∃ V, Hid (V = wN l 1 a2) := ⟨_, hid rfl⟩
  obtain ⟨V3, hV3⟩ : ∃ V, Hid (V = wN l 3 a3) := ⟨_, hid rfl⟩
  obtain ⟨V4, hV4⟩ : ∃ V, Hid (V = wN l 3 a4) := ⟨_, hid rfl⟩
  obtain ⟨V5, hV5⟩ : ∃ V, Hid (V = wN l 4 a5) := ⟨_, hid rfl⟩
  have hvs : Hid (vsV l (kdJ 4) [a1, a2, a3, a4, a5] = [(kc : Int), V2, V3, V4, V5]) := by
    show _ = _
    rw [hV1.out, hV2.out, hV3.out, hV4.out, hV5.out]
    rfl
  clear hrf
  have hl := hid h.length
  obtain ⟨b, off, y, hq, hbk, hx, y0⟩ := get_w hS (show 0 < m + 1 by omega)
  subst hq
  obtain rfl : s = y := by have := hx.out; simpa using this
  rw [Nat.add_zero] at y0
  clear hx
  have hm0 : (0 : Int) < ((m + 1 : Nat) : Int) := by omega
  have hm1 : ¬ (((m + 1 : Nat) : Int) = 0) := by omega
  have hm2 : (1 : Int) ≤ (m : Int) + 1 := by omega
  have hm3 : (1 : Int) ≤ ((m + 1 : Nat) : Int) := by omega
  go_enter Tryz.func17, Tryz.ntmps17
  go_upto_region 1 with (fail)
  generalize hW : World.alloc (World.alloc _ _) _ = W0
  obtain ⟨E0, z0, b0, b1⟩ := boxes2 hW
  clear hW z0
  replace b0 := hid (show Blk W0 (w.heap.size) [_] _ from b0)
  replace b1 := hid (show Blk W0 (w.heap.size + 1) (encEd zE) _ from b1)
  have g0 := b0.out.cells
  have l0 := b0.out.lt
  have E := Ext.refl W0
  have y1 := hid ((E0.cells _ _ hbk).trans y0)
  have hbk1 := hid (Nat.lt_of_lt_of_le hbk E0.le)
  have y2 := y1.out
  have hb2 := hbk1.out
  go_upto_region 6 with (go_at_call 31; refine (pKinds_4 s _ hj).mono ?_; rintro e w2 ⟨rfl, rfl⟩)
  have x0 := g0 0
  simp only [List.getElem?_cons_zero] at x0
  go_region_held3 (fun V => V.cell? ⟨w.heap.size, 0, none⟩ = some (.slice p n c)) (first | exact x0 | exact (E7.cells _ _ l0).trans x0) (first | ((go_at_call 32); refine (pReadW (kpJ 4) (kdJ 4) [a1, a2, a3, a4, a5] l p _ n c m _ base base2 _ ((hV.ext E0).ext (Ext.refl _).drew) (h.ext CeR.ok (E0.trans (Ext.refl _).drew)) hn (tail_w (hS.ext okStr (E0.trans (Ext.refl _).drew)) hd) hm (fun y hy => hws y (List.mem_cons_of_mem _ hy)) kpJ_size4 (by decide) kpB4 kpT4).mono ?_; rw [hrw, hvs.out]; rintro e w7 ⟨q3, n3, d3, rfl, hv, E7⟩; replace hv := hid hv; generalize (ite (d = 1) _ _) = q9))
  replace E7 := (Ext.refl _).drew.trans E7
  clear g0 l0 y2 hb2 x0
  have g0 := (b0.out.ext E7).cells
  have l0 := (b0.out.ext E7).lt
  have y2 := (E7.cells _ _ hbk1.out).trans y1.out
  have hb2 := Nat.lt_of_lt_of_le hbk1.out E7.le
  obtain ⟨hn3, hv9⟩ := hv.out (by first | trivial | rfl)
  clear hv
  obtain rfl : n3 = 5 := hn3
  have hv : SlD (Fl enc1) 1 _ w7 q3 5 [(kc : Int), V2, V3, V4, V5] := hv9
  obtain ⟨bq, oq, hq3, hbq⟩ := slice_at hv (by omega)
  subst hq3
  have vH0 := hid (get_i hv (k := 0) rfl)
  have vH1 := hid (get_i hv (k := 1) rfl)
  have vH2 := hid (get_i hv (k := 2) rfl)
  have vH3 := hid (get_i hv (k := 3) rfl)
  have vH4 := hid (get_i hv (k := 4) rfl)
  have wH1 := hid ((E7.cells _ _ hbk1.out).trans ((E0.cells _ _ hbk).trans (get_s hS (k := 1) rfl)))
  have wH2 := hid ((E7.cells _ _ hbk1.out).trans ((E0.cells _ _ hbk).trans (get_s hS (k := 2) rfl)))
  have wH3 := hid ((E7.cells _ _ hbk1.out).trans ((E0.cells _ _ hbk).trans (get_s hS (k := 3) rfl)))
  have wH4 := hid ((E7.cells _ _ hbk1.out).trans ((E0.cells _ _ hbk).trans (get_s hS (k := 4) rfl)))
  have wH5 := hid ((E7.cells _ _ hbk1.out).trans ((E0.cells _ _ hbk).trans (get_s hS (k := 5) rfl)))
  have hbqH := hid hbq
  have hbH := hid hb2
  clear hv hbq
  have t8 := hid (there_blk (((Blk.new w7 (encEd zE) 39).alloc (.cells zC.toArray 72))))
  go_upto_region 10 with (first | (refine wpList_build rfl 39 #[] rfl [] rfl (encEd zE).toArray built_zE ?_) | (refine wpList_build rfl 72 #[] rfl [] rfl zC.toArray built_zC ?_) | (((with_reducible refine at_store ?_); refine wpList_store_mid rfl 39 (Operand.tmp 10) _ rfl (w7.heap.size) 0 (encEd zE).toArray rfl rfl t8.out (sz_Ed _) (one_Edit _) ?_); generalize hV8 : World.setCells _ _ _ _ = W8; obtain ⟨bo8, bc8, E8⟩ := two_new hV8; clear hV8; have t9 := hid (there_blk bc8)) | ((with_reducible refine at_store ?_); refine wpList_store_mid rfl 72 (Operand.tmp 11) _ rfl (w7.heap.size + 1) 0 zC.toArray rfl rfl t9.out sz_Ce one_zC ?_))
  generalize hV9 : World.setCells _ _ _ _ = W9
  have bO := hid (show Blk W9 w7.heap.size (encEd zE) 39 by rw [← hV9]; exact bo8.mut (Mut.setCells (S := [w7.heap.size + 1]) (by simp) _ _ _ (Mut.refl _ _)) (by simp))
  have bC := hid (show Blk W9 (w7.heap.size + 1) zC 72 by rw [← hV9]; exact bc8.setAll rfl)
  have E9 := hid (show Ext w7 W9 by rw [← hV9]; exact ext_setCells (Nat.le_succ _) _ _ _ E8)
  clear hV9 bo8 bc8 E8 t8 t9 g0 l0 y2 hb2
  have hbt := get_bt (kpJ 4)
  have hk0 : (0 : Int) < (kpJ 4).size := by rw [kpJ_size4]; decide
  have hk1 : 0 < (kpJ 4).size := by rw [kpJ_size4]; decide
  have hkb : bt (kpJ 4) 0 = 99 := (kpB4 0 0 rfl).2
  have hs := kw_4 hj
  have x0 := (E9.out.cells _ _ ((b0.out.ext E7).lt)).trans (((b0.out.ext E7).cells) 0)
  have l0 := Nat.lt_of_lt_of_le ((b0.out.ext E7).lt) E9.out.le
  simp only [List.getElem?_cons_zero] at x0
  have y2 := (E9.out.cells _ _ hbH.out).trans ((E7.cells _ _ hbk1.out).trans y1.out)
  have hb2 := Nat.lt_of_lt_of_le hbH.out E9.out.le
  have v0 := (E9.out.cells _ _ hbqH.out).trans vH0.out
  have v1 := (E9.out.cells _ _ hbqH.out).trans vH1.out
  have v2 := (E9.out.cells _ _ hbqH.out).trans vH2.out
  have v3 := (E9.out.cells _ _ hbqH.out).trans vH3.out
  have v4 := (E9.out.cells _ _ hbqH.out).trans vH4.out
  rw [Nat.add_zero] at v0
  have hbq := Nat.lt_of_lt_of_le hbqH.out E9.out.le
  have z1 := (E9.out.cells _ _ hbH.out).trans wH1.out
  have z2 := (E9.out.cells _ _ hbH.out).trans wH2.out
  have z3 := (E9.out.cells _ _ hbH.out).trans wH3.out
  have z4 := (E9.out.cells _ _ hbH.out).trans wH4.out
  have z5 := (E9.out.cells _ _ hbH.out).trans wH5.out
  have hi1 : (1 : Int) < (m : Int) + 1 := by have := hmr.out; omega
  have hi2 : (2 : Int) < (m : Int) + 1 := by have := hmr.out; omega
  have hi3 : (3 : Int) < (m : Int) + 1 := by have := hmr.out; omega
  have hi4 : (4 : Int) < (m : Int) + 1 := by have := hmr.out; omega
  have hi5 : (5 : Int) < (m : Int) + 1 := by have := hmr.out; omega
  have ne1 : b ≠ w7.heap.size := by have := hbH.out; omega
  have ne2 : bq ≠ w7.heap.size := by have := hbqH.out; omega
  have ne3 : w.heap.size ≠ w7.heap.size := by have := (b0.out.ext E7).lt; omega
  have ne4 : w7.heap.size + 1 ≠ w7.heap.size := by omega
  have bO2 := hid (show Blk W9 w7.heap.size [.int .i64 0, .int .i64 0, .int .i64 0, .string ⟨#[]⟩, .int .i64 0, .int .i64 0, .int .i64 0, .int .i64 0, .int .i64 0, .int .i64 0, .int .i64 0, .int .i64 0, .string ⟨#[]⟩, .int .i64 0, .int .i64 0, .int .i64 0, .int .i64 0, .int .i64 0, .int .i64 0, .int .i64 0, .int .i64 0] 39 from bO.out)
  have bC2 := hid (show Blk W9 (w7.heap.size + 1) [.string ⟨#[]⟩, .slice none 0 0, .slice none 0 0, .slice none 0 0] 72 from bC.out)
  clear bO bC
  have bO := bO2
  have bC := bC2
  clear bO2 bC2
  have gO : ∀ j, W9.cell? ⟨w7.heap.size, j, none⟩ = [.int .i64 0, .int .i64 0, .int .i64 0, .string ⟨#[]⟩, .int .i64 0, .int .i64 0, .int .i64 0, .int .i64 0, .int .i64 0, .int .i64 0, .int .i64 0, .int .i64 0, .string ⟨#[]⟩, .int .i64 0, .int .i64 0, .int .i64 0, .int .i64 0, .int .i64 0, .int .i64 0, .int .i64 0, .int .i64 0][j]? := bO.out.cells
  have fO := bO.out.free
  have lO := bO.out.lt
  have gC : ∀ j, W9.cell? ⟨w7.heap.size + 1, j, none⟩ = [.string ⟨#[]⟩, .slice none 0 0, .slice none 0 0, .slice none 0 0][j]? := bC.out.cells
  have fC := bC.out.free
  have lC := bC.out.lt
  go_upto_region 12 with (fail)
  clear gO fO lO gC fC lC x0 l0 y2 hb2 hbq v0 v1 v2 v3 v4 z1 z2 z3 z4 z5
  have bO2 := (bO.out.set 1 (.int .i64 (kc : Int)))
  simp only [List.set_cons_zero, List.set_cons_succ] at bO2
  have bC2 := (bC.out.other (B := w7.heap.size) 1 (.int .i64 (kc : Int)) (by omega))
  have E92 := (E9.out.setCell (p := ⟨w7.heap.size, 1, none⟩) (Nat.le_refl _) (.int .i64 (kc : Int)))
  generalize hV : World.setCell _ _ _ = Wn1
  have bO3 := hid (show Blk Wn1 w7.heap.size [.int .i64 0, .int .i64 (kc : Int), .int .i64 0, .string ⟨#[]⟩, .int .i64 0, .int .i64 0, .int .i64 0, .int .i64 0, .int .i64 0, .int .i64 0, .int .i64 0, .int .i64 0, .string ⟨#[]⟩, .int .i64 0, .int .i64 0, .int .i64 0, .int .i64 0, .int .i64 0, .int .i64 0, .int .i64 0, .int .i64 0] 39 from by rw [← hV]; exact bO2)
  have bC3 := hid (show Blk Wn1 (w7.heap.size + 1) [.string ⟨#[]⟩, .slice none 0 0, .slice none 0 0, .slice none 0 0] 72 from by rw [← hV]; exact bC2)
  have E93 := hid (show Ext w7 Wn1 from by rw [← hV]; exact E92)
  clear hV bO bC E9 bO2 bC2 E92
  have bO := bO3
  have bC := bC3
  have E9 := E93
  clear bO3 bC3 E93
  have x0 := (E9.out.cells _ _ ((b0.out.ext E7).lt)).trans (((b0.out.ext E7).cells) 0)
  have l0 := Nat.lt_of_lt_of_le ((b0.out.ext E7).lt) E9.out.le
  simp only [List.getElem?_cons_zero] at x0
  have y2 := (E9.out.cells _ _ hbH.out).trans ((E7.cells _ _ hbk1.out).trans y1.out)
  have hb2 := Nat.lt_of_lt_of_le hbH.out E9.out.le
  have v0 := (E9.out.cells _ _ hbqH.out).trans vH0.out
  have v1 := (E9.out.cells _ _ hbqH.out).trans vH1.out
  have v2 := (E9.out.cells _ _ hbqH.out).trans vH2.out
  have v3 := (E9.out.cells _ _ hbqH.out).trans vH3.out
  have v4 := (E9.out.cells _ _ hbqH.out).trans vH4.out
  rw [Nat.add_zero] at v0
  have hbq := Nat.lt_of_lt_of_le hbqH.out E9.out.le
  have z1 := (E9.out.cells _ _ hbH.out).trans wH1.out
  have z2 := (E9.out.cells _ _ hbH.out).trans wH2.out
  have z3 := (E9.out.cells _ _ hbH.out).trans wH3.out
  have z4 := (E9.out.cells _ _ hbH.out).trans wH4.out
  have z5 := (E9.out.cells _ _ hbH.out).trans wH5.out
  have gO : ∀ j, Wn1.cell? ⟨w7.heap.size, j, none⟩ = [.int .i64 0, .int .i64 (kc : Int), .int .i64 0, .string ⟨#[]⟩, .int .i64 0, .int .i64 0, .int .i64 0, .int .i64 0, .int .i64 0, .int .i64 0, .int .i64 0, .int .i64 0, .string ⟨#[]⟩, .int .i64 0, .int .i64 0, .int .i64 0, .int .i64 0, .int .i64 0, .int .i64 0, .int .i64 0, .int .i64 0][j]? := bO.out.cells
  have fO := bO.out.free
  have lO := bO.out.lt
  have gC : ∀ j, Wn1.cell? ⟨w7.heap.size + 1, j, none⟩ = [.string ⟨#[]⟩, .slice none 0 0, .slice none 0 0, .slice none 0 0][j]? := bC.out.cells
  have fC := bC.out.free
  have lC := bC.out.lt
  have hkn : kc < n := by have := (List.getElem?_eq_some_iff.1 hce.out).1; have := hl.out; omega
  have hknI : (kc : Int) < n := by omega
  obtain ⟨bl, ofl, ye, cs, hpl, hbl, hxl, hcs, hcl⟩ := (h.ext CeR.ok (E0.trans (E7.trans E9.out))).get hkn
  subst hpl
  obtain rfl : ce = ye := Option.some.inj (hce.out.symm.trans hxl.out)
  obtain ⟨p1, n1, c1, p2, n2, c2, p3, n3, c3, rfl, s1, s2, s3⟩ := hcs
  have c0 := hcl 0 _ rfl
  rw [Nat.add_zero] at c0
  have c10 := hcl 1 _ rfl
  have c20 := hcl 2 _ rfl
  have c30 := hcl 3 _ rfl
  have ln1 := hid s1.length
  have ln2 := hid s2.length
  have ln3 := hid s3.length
  clear hcl s1 s2 s3
  go_region
  clear c0 c10 c20 c30 hbl
  clear gO fO lO gC fC lC x0 l0 y2 hb2 hbq v0 v1 v2 v3 v4 z1 z2 z3 z4 z5
  have bO2 := Blk.drew ((((bO.out.other (B := w7.heap.size + 1) 0 (.string ce.s) (by omega)).other (B := w7.heap.size + 1) 1 (.slice p1 n1 c1) (by omega)).other (B := w7.heap.size + 1) 2 (.slice p2 n2 c2) (by omega)).other (B := w7.heap.size + 1) 3 (.slice p3 n3 c3) (by omega))
  have bC2 := Blk.drew ((((bC.out.set 0 (.string ce.s)).set 1 (.slice p1 n1 c1)).set 2 (.slice p2 n2 c2)).set 3 (.slice p3 n3 c3))
  simp only [List.set_cons_zero, List.set_cons_succ] at bC2
  have E92 := Ext.drew ((((E9.out.setCell (p := ⟨w7.heap.size + 1, 0, none⟩) (Nat.le_succ _) (.string ce.s)).setCell (p := ⟨w7.heap.size + 1, 1, none⟩) (Nat.le_succ _) (.slice p1 n1 c1)).setCell (p := ⟨w7.heap.size + 1, 2, none⟩) (Nat.le_succ _) (.slice p2 n2 c2)).setCell (p := ⟨w7.heap.size + 1, 3, none⟩) (Nat.le_succ _) (.slice p3 n3 c3))
  generalize hV : World.drew _ = Wn2
  have bO3 := hid (show Blk Wn2 w7.heap.size [.int .i64 0, .int .i64 (kc : Int), .int .i64 0, .string ⟨#[]⟩, .int .i64 0, .int .i64 0, .int .i64 0, .int .i64 0, .int .i64 0, .int .i64 0, .int .i64 0, .int .i64 0, .string ⟨#[]⟩, .int .i64 0, .int .i64 0, .int .i64 0, .int .i64 0, .int .i64 0, .int .i64 0, .int .i64 0, .int .i64 0] 39 from by rw [← hV]; exact bO2)
  have bC3 := hid (show Blk Wn2 (w7.heap.size + 1) [.string ce.s, .slice p1 n1 c1, .slice p2 n2 c2, .slice p3 n3 c3] 72 from by rw [← hV]; exact bC2)
  have E93 := hid (show Ext w7 Wn2 from by rw [← hV]; exact E92)
  clear hV bO bC E9 bO2 bC2 E92
  have bO := bO3
  have bC := bC3
  have E9 := E93
  clear bO3 bC3 E93
  have x0 := (E9.out.cells _ _ ((b0.out.ext E7).lt)).trans (((b0.out.ext E7).cells) 0)
  have l0 := Nat.lt_of_lt_of_le ((b0.out.ext E7).lt) E9.out.le
  simp only [List.getElem?_cons_zero] at x0
  have y2 := (E9.out.cells _ _ hbH.out).trans ((E7.cells _ _ hbk1.out).trans y1.out)
  have hb2 := Nat.lt_of_lt_of_le hbH.out E9.out.le
  have v0 := (E9.out.cells _ _ hbqH.out).trans vH0.out
  have v1 := (E9.out.cells _ _ hbqH.out).trans vH1.out
  have v2 := (E9.out.cells _ _ hbqH.out).trans vH2.out
  have v3 := (E9.out.cells _ _ hbqH.out).trans vH3.out
  have v4 := (E9.out.cells _ _ hbqH.out).trans vH4.out
  rw [Nat.add_zero] at v0
  have hbq := Nat.lt_of_lt_of_le hbqH.out E9.out.le
  have z1 := (E9.out.cells _ _ hbH.out).trans wH1.out
  have z2 := (E9.out.cells _ _ hbH.out).trans wH2.out
  have z3 := (E9.out.cells _ _ hbH.out).trans wH3.out
  have z4 := (E9.out.cells _ _ hbH.out).trans wH4.out
  have z5 := (E9.out.cells _ _ hbH.out).trans wH5.out
  have gO : ∀ j, Wn2.cell? ⟨w7.heap.size, j, none⟩ = [.int .i64 0, .int .i64 (kc : Int), .int .i64 0, .string ⟨#[]⟩, .int .i64 0, .int .i64 0, .int .i64 0, .int .i64 0, .int .i64 0, .int .i64 0, .int .i64 0, .int .i64 0, .string ⟨#[]⟩, .int .i64 0, .int .i64 0, .int .i64 0, .int .i64 0, .int .i64 0, .int .i64 0, .int .i64 0, .int .i64 0][j]? := bO.out.cells
  have fO := bO.out.free
  have lO := bO.out.lt
  have gC : ∀ j, Wn2.cell? ⟨w7.heap.size + 1, j, none⟩ = [.string ce.s, .slice p1 n1 c1, .slice p2 n2 c2, .slice p3 n3 c3][j]? := bC.out.cells
  have fC := bC.out.free
  have lC := bC.out.lt
  go_upto_region 24 with (fail)
  go_region
  clear gO fO lO gC fC lC x0 l0 y2 hb2 hbq v0 v1 v2 v3 v4 z1 z2 z3 z4 z5
  have bO2 := Blk.drew ((bO.out.set 0 (.int .i64 3)).set 2 (.int .i64 (n2 : Int)))
  simp only [List.set_cons_zero, List.set_cons_succ] at bO2
  have bC2 := Blk.drew ((bC.out.other (B := w7.heap.size) 0 (.int .i64 3) (by omega)).other (B := w7.heap.size) 2 (.int .i64 (n2 : Int)) (by omega))
  have E92 := Ext.drew ((E9.out.setCell (p := ⟨w7.heap.size, 0, none⟩) (Nat.le_refl _) (.int .i64 3)).setCell (p := ⟨w7.heap.size, 2, none⟩) (Nat.le_refl _) (.int .i64 (n2 : Int)))
  generalize hV : World.drew _ = Wn3
  have bO3 := hid (show Blk Wn3 w7.heap.size [.int .i64 3, .int .i64 (kc : Int), .int .i64 (n2 : Int), .string ⟨#[]⟩, .int .i64 0, .int .i64 0, .int .i64 0, .int .i64 0, .int .i64 0, .int .i64 0, .int .i64 0, .int .i64 0, .string ⟨#[]⟩, .int .i64 0, .int .i64 0, .int .i64 0, .int .i64 0, .int .i64 0, .int .i64 0, .int .i64 0, .int .i64 0] 39 from by rw [← hV]; exact bO2)
  have bC3 := hid (show Blk Wn3 (w7.heap.size + 1) [.string ce.s, .slice p1 n1 c1, .slice p2 n2 c2, .slice p3 n3 c3] 72 from by rw [← hV]; exact bC2)
  have E93 := hid (show Ext w7 Wn3 from by rw [← hV]; exact E92)
  clear hV bO bC E9 bO2 bC2 E92
  have bO := bO3
  have bC := bC3
  have E9 := E93
  clear bO3 bC3 E93
  have x0 := (E9.out.cells _ _ ((b0.out.ext E7).lt)).trans (((b0.out.ext E7).cells) 0)
  have l0 := Nat.lt_of_lt_of_le ((b0.out.ext E7).lt) E9.out.le
  simp only [List.getElem?_cons_zero] at x0
  have y2 := (E9.out.cells _ _ hbH.out).trans ((E7.cells _ _ hbk1.out).trans y1.out)
  have hb2 := Nat.lt_of_lt_of_le hbH.out E9.out.le
  have v0 := (E9.out.cells _ _ hbqH.out).trans vH0.out
  have v1 := (E9.out.cells _ _ hbqH.out).trans vH1.out
  have v2 := (E9.out.cells _ _ hbqH.out).trans vH2.out
  have v3 := (E9.out.cells _ _ hbqH.out).trans vH3.out
  have v4 := (E9.out.cells _ _ hbqH.out).trans vH4.out
  rw [Nat.add_zero] at v0
  have hbq := Nat.lt_of_lt_of_le hbqH.out E9.out.le
  have z1 := (E9.out.cells _ _ hbH.out).trans wH1.out
  have z2 := (E9.out.cells _ _ hbH.out).trans wH2.out
  have z3 := (E9.out.cells _ _ hbH.out).trans wH3.out
  have z4 := (E9.out.cells _ _ hbH.out).trans wH4.out
  have z5 := (E9.out.cells _ _ hbH.out).trans wH5.out
  have gO : ∀ j, Wn3.cell? ⟨w7.heap.size, j, none⟩ = [.int .i64 3, .int .i64 (kc : Int), .int .i64 (n2 : Int), .string ⟨#[]⟩, .int .i64 0, .int .i64 0, .int .i64 0, .int .i64 0, .int .i64 0, .int .i64 0, .int .i64 0, .int .i64 0, .string ⟨#[]⟩, .int .i64 0, .int .i64 0, .int .i64 0, .int .i64 0, .int .i64 0, .int .i64 0, .int .i64 0, .int .i64 0][j]? := bO.out.cells
  have fO := bO.out.free
  have lO := bO.out.lt
  have gC : ∀ j, Wn3.cell? ⟨w7.heap.size + 1, j, none⟩ = [.string ce.s, .slice p1 n1 c1, .slice p2 n2 c2, .slice p3 n3 c3][j]? := bC.out.cells
  have fC := bC.out.free
  have lC := bC.out.lt
  go_upto_region 25 with (fail)
  refine wp_region_still_tail 15 (by kernel_rfl) (by kernel_rfl) ?_
  simp only [List.take_succ_cons, List.take_zero, List.drop_succ_cons, List.drop_zero]
  iterate 15 still_step
  refine wpStill_nil ?_
  change wpList _ _ _ _ _ Wn3.drew
  go_upto_region 38 with (fail)
  clear gO fO lO gC fC lC x0 l0 y2 hb2 hbq v0 v1 v2 v3 v4 z1 z2 z3 z4 z5
  have bO2 := Blk.drew ((((bO.out.set 9 (.int .i64 V2)).set 10 (.int .i64 V3)).set 11 (.int .i64 V4)).set 12 (.string a5))
  simp only [List.set_cons_zero, List.set_cons_succ] at bO2
  have bC2 := Blk.drew ((((bC.out.other (B := w7.heap.size) 9 (.int .i64 V2) (by omega)).other (B := w7.heap.size) 10 (.int .i64 V3) (by omega)).other (B := w7.heap.size) 11 (.int .i64 V4) (by omega)).other (B := w7.heap.size) 12 (.string a5) (by omega))
  have E92 := Ext.drew ((((E9.out.setCell (p := ⟨w7.heap.size, 9, none⟩) (Nat.le_refl _) (.int .i64 V2)).setCell (p := ⟨w7.heap.size, 10, none⟩) (Nat.le_refl _) (.int .i64 V3)).setCell (p := ⟨w7.heap.size, 11, none⟩) (Nat.le_refl _) (.int .i64 V4)).setCell (p := ⟨w7.heap.size, 12, none⟩) (Nat.le_refl _) (.string a5))
  generalize hV : World.drew _ = Wn4
  have bO3 := hid (show Blk Wn4 w7.heap.size [.int .i64 3, .int .i64 (kc : Int), .int .i64 (n2 : Int), .string ⟨#[]⟩, .int .i64 0, .int .i64 0, .int .i64 0, .int .i64 0, .int .i64 0, .int .i64 V2, .int .i64 V3, .int .i64 V4, .string a5, .int .i64 0, .int .i64 0, .int .i64 0, .int .i64 0, .int .i64 0, .int .i64 0, .int .i64 0, .int .i64 0] 39 from by rw [← hV]; exact bO2)
  have bC3 := hid (show Blk Wn4 (w7.heap.size + 1) [.string ce.s, .slice p1 n1 c1, .slice p2 n2 c2, .slice p3 n3 c3] 72 from by rw [← hV]; exact bC2)
  have E93 := hid (show Ext w7 Wn4 from by rw [← hV]; exact E92)
  clear hV bO bC E9 bO2 bC2 E92
  have bO := bO3
  have bC := bC3
  have E9 := E93
  clear bO3 bC3 E93
  have x0 := (E9.out.cells _ _ ((b0.out.ext E7).lt)).trans (((b0.out.ext E7).cells) 0)
  have l0 := Nat.lt_of_lt_of_le ((b0.out.ext E7).lt) E9.out.le
  simp only [List.getElem?_cons_zero] at x0
  have y2 := (E9.out.cells _ _ hbH.out).trans ((E7.cells _ _ hbk1.out).trans y1.out)
  have hb2 := Nat.lt_of_lt_of_le hbH.out E9.out.le
  have v0 := (E9.out.cells _ _ hbqH.out).trans vH0.out
  have v1 := (E9.out.cells _ _ hbqH.out).trans vH1.out
  have v2 := (E9.out.cells _ _ hbqH.out).trans vH2.out
  have v3 := (E9.out.cells _ _ hbqH.out).trans vH3.out
  have v4 := (E9.out.cells _ _ hbqH.out).trans vH4.out
  rw [Nat.add_zero] at v0
  have hbq := Nat.lt_of_lt_of_le hbqH.out E9.out.le
  have z1 := (E9.out.cells _ _ hbH.out).trans wH1.out
  have z2 := (E9.out.cells _ _ hbH.out).trans wH2.out
  have z3 := (E9.out.cells _ _ hbH.out).trans wH3.out
  have z4 := (E9.out.cells _ _ hbH.out).trans wH4.out
  have z5 := (E9.out.cells _ _ hbH.out).trans wH5.out
  have gO : ∀ j, Wn4.cell? ⟨w7.heap.size, j, none⟩ = [.int .i64 3, .int .i64 (kc : Int), .int .i64 (n2 : Int), .string ⟨#[]⟩, .int .i64 0, .int .i64 0, .int .i64 0, .int .i64 0, .int .i64 0, .int .i64 V2, .int .i64 V3, .int .i64 V4, .string a5, .int .i64 0, .int .i64 0, .int .i64 0, .int .i64 0, .int .i64 0, .int .i64 0, .int .i64 0, .int .i64 0][j]? := bO.out.cells
  have fO := bO.out.free
  have lO := bO.out.lt
  have gC : ∀ j, Wn4.cell? ⟨w7.heap.size + 1, j, none⟩ = [.string ce.s, .slice p1 n1 c1, .slice p2 n2 c2, .slice p3 n3 c3][j]? := bC.out.cells
  have fC := bC.out.free
  have lC := bC.out.lt
  clear gO fO lO gC fC lC x0 l0 y2 hb2 hbq v0 v1 v2 v3 v4 z1 z2 z3 z4 z5
  have bE := hid (show Blk Wn4 w7.heap.size (encEd ⟨3, (kc : Int), (n2 : Int), emp, zS, ⟨V2, ⟨V3, V4⟩, a5⟩, zI⟩) 39 from bO.out)
  have rE := hid (range_blk bE.out)
  have hmk : Hid (mkE l 4 [a1, a2, a3, a4, a5] [(kc : Int), V2, V3, V4, V5] = ⟨3, (kc : Int), (n2 : Int), emp, zS, ⟨V2, ⟨V3, V4⟩, a5⟩, zI⟩) := by show _ = _; (show (⟨3, (kc : Int), ((cAt l (kc : Int)).lbs.length : Int), emp, zS, ⟨V2, ⟨V3, V4⟩, a5⟩, zI⟩ : EdD) = _; rw [cAt_nat hce.out, ln2.out])
  have hcI : Hid (Calls Tryz.prog 33 #[.agg (encEd ⟨3, (kc : Int), (n2 : Int), emp, zS, ⟨V2, ⟨V3, V4⟩, a5⟩, zI⟩).toArray] Wn4 fun e w' => e = .returned (.bool (edP ⟨3, (kc : Int), (n2 : Int), emp, zS, ⟨V2, ⟨V3, V4⟩, a5⟩, zI⟩)) ∧ Ext Wn4 w') := hid (pEdit_any _ _ _ _ _ _ _ _ (by show (0 : Nat) ≤ 9223372036854775807; exact Nat.zero_le _) (by show a5.size ≤ _; have := hws a5 (by simp); omega))
  rw [← hvs.out] at hmk
  cases hP : edP ⟨3, (kc : Int), (n2 : Int), emp, zS, ⟨V2, ⟨V3, V4⟩, a5⟩, zI⟩ with
  | true =>
    have hr := hid (edV_ok (l := l) hj hrw (by rw [hmk.out]; exact hP))
    rw [hmk.out] at hr
    rw [hP] at hcI
    clear hP
    go_wp2_with (first | (refine wpList_build rfl 39 #[] rfl [] rfl (encEd zE).toArray built_zE ?_) | ((with_reducible refine at_dst 193 ?_); refine wpList_load_mid rfl 39 (Operand.tmp 10) rfl (w7.heap.size) 0 rfl (encEd ⟨3, (kc : Int), (n2 : Int), emp, zS, ⟨V2, ⟨V3, V4⟩, a5⟩, zI⟩) _ rE.out Tryz.underlying39 rfl (sz_Ed2 _) ?_) | (go_at_call 33; refine hcI.out.mono ?_; rintro e w8 ⟨rfl, E8⟩; have rE8 := hid (range_blk (bE.out.ext E8)); have r1 := hid (there_blk ((b1.out.ext E7).ext (E9.out.trans E8)))) | ((with_reducible refine at_dst 197 ?_); refine wpList_load_mid rfl 39 (Operand.tmp 10) rfl (w7.heap.size) 0 rfl (encEd ⟨3, (kc : Int), (n2 : Int), emp, zS, ⟨V2, ⟨V3, V4⟩, a5⟩, zI⟩) _ rE8.out Tryz.underlying39 rfl (sz_Ed2 _) ?_) | ((with_reducible refine at_store ?_); refine wpList_store_mid rfl 39 (Operand.tmp 4) _ rfl (w.heap.size + 1) 0 (encEd ⟨3, (kc : Int), (n2 : Int), emp, zS, ⟨V2, ⟨V3, V4⟩, a5⟩, zI⟩).toArray rfl rfl r1.out (sz_Ed _) (one_Edit _) ?_))
    generalize hV9 : World.setCells _ _ _ _ = W9
    have kB : Blk W9 (w.heap.size + 1) (encEd ⟨3, (kc : Int), (n2 : Int), emp, zS, ⟨V2, ⟨V3, V4⟩, a5⟩, zI⟩) 39 := by rw [← hV9]; exact ((b1.out.ext E7).ext (E9.out.trans E8)).setAll (vs := encEd ⟨3, (kc : Int), (n2 : Int), emp, zS, ⟨V2, ⟨V3, V4⟩, a5⟩, zI⟩) rfl
    have hE2 : Ext w W9 := by rw [← hV9]; exact ext_setCells (by omega) _ _ _ (E0.trans (E7.trans (E9.out.trans E8)))
    clear hV9
    exact bodyPost_ret (v := .tuple #[.agg (encEd ⟨3, (kc : Int), (n2 : Int), emp, zS, ⟨V2, ⟨V3, V4⟩, a5⟩, zI⟩).toArray, .int .i64 0]) (results_cell_tmp Tryz.results17 _ _ (w.heap.size + 1) 39 (encEd ⟨3, (kc : Int), (n2 : Int), emp, zS, ⟨V2, ⟨V3, V4⟩, a5⟩, zI⟩).toArray (0, 0) _ rfl kB Tryz.underlying39 rfl (sz_Ed _)) rfl ⟨by rw [hr.out], hE2⟩
  | false =>
    have hr := hid (edV_inv (l := l) hj hrw (by rw [hmk.out]; exact hP))
    rw [hP] at hcI
    clear hP
    go_wp2_with (first | (refine wpList_build rfl 39 #[] rfl [] rfl (encEd zE).toArray built_zE ?_) | ((with_reducible refine at_dst 193 ?_); refine wpList_load_mid rfl 39 (Operand.tmp 10) rfl (w7.heap.size) 0 rfl (encEd ⟨3, (kc : Int), (n2 : Int), emp, zS, ⟨V2, ⟨V3, V4⟩, a5⟩, zI⟩) _ rE.out Tryz.underlying39 rfl (sz_Ed2 _) ?_) | (go_at_call 33; refine hcI.out.mono ?_; rintro e w8 ⟨rfl, E8⟩; have r1 := hid (there_blk ((b1.out.ext E7).ext (E9.out.trans E8)))) | ((with_reducible refine at_store ?_); refine wpList_store_mid rfl 39 (Operand.tmp 4) _ rfl (w.heap.size + 1) 0 (encEd zE).toArray rfl rfl r1.out (sz_Ed _) (one_Edit _) ?_))
    generalize hV9 : World.setCells _ _ _ _ = W9
    have kB : Blk W9 (w.heap.size + 1) (encEd zE) 39 := by rw [← hV9]; exact ((b1.out.ext E7).ext (E9.out.trans E8)).setAll (vs := encEd zE) rfl
    have hE2 : Ext w W9 := by rw [← hV9]; exact ext_setCells (by omega) _ _ _ (E0.trans (E7.trans (E9.out.trans E8)))
    clear hV9
    exact bodyPost_ret (v := .tuple #[.agg (encEd zE).toArray, .int .i64 1]) (results_cell_tmp Tryz.results17 _ _ (w.heap.size + 1) 39 (encEd zE).toArray (0, 0) _ rfl kB Tryz.underlying39 rfl (sz_Ed _)) rfl ⟨by rw [hr.out], hE2⟩

set_option maxRecDepth 100000 in
set_option maxHeartbeats 4000000 in
theorem pEditOf_good7 (s : ByteArray) (ws : List ByteArray) (l : List CeD) (p q : Option Addr) (n c m d base base2 : Nat) (w : World) (hV : Vrs w) (h : SlD CeR 4 base w p n l) (hn : n ≤ 1048576) (hS : SlD (Fl encW) 1 base2 w q (m + 1) (s :: ws)) (hm : m ≤ 1048576) (hd : m + 1 ≤ d) (hws : ∀ y ∈ s :: ws, y.size ≤ 1048576) (hj : kwX s = some 7) (hrw : rwV l (kdJ 7) ws = 0) :
    Calls Tryz.prog 17 #[.agg #[.slice p n c], .slice q (m + 1) d] w fun e w' => e = .returned (.tuple #[.agg (encEd (edV l (s :: ws)).1).toArray, .int .i64 (edV l (s :: ws)).2]) ∧ Ext w w' := by
  obtain ⟨hlen, hrf⟩ := rw_ok hrw
  have hlen2 : ws.length = 2 := hlen
  clear hlen
  obtain ⟨a1, ws1, rfl⟩ : ∃ a t, ws = a :: t := by
    cases ws with
    | nil => simp at hlen2
    | cons a t => exact ⟨a, t, rfl⟩
  obtain ⟨a2, ws2, rfl⟩ : ∃ a t, ws1 = a :: t := by
    cases ws1 with
    | nil => simp at hlen2
    | cons a t => exact ⟨a, t, rfl⟩
  obtain rfl : ws2 = [] := by
    cases ws2 with
    | nil => rfl
    | cons a t => simp at hlen2
  clear hlen2
  have hmr := hid (show m = 2 by have := hS.length; simp at this; omega)
  obtain ⟨kc, ce, hkc, hce⟩ := cell_at (rwF_head hrf).1
  have hV1 := hid hkc.symm
  clear hkc
  replace hce := hid hce
  obtain ⟨V2, hV2⟩ : ∃ V, Hid (V = wN l 3 a2) := ⟨_, hid rfl⟩
  have hvs : Hid (vsV l (kdJ 7) [a1, a2] = [(kc : Int), V2]) := by
    show _ = _
    rw [hV1.out, hV2.out]
    rfl
  clear hrf
  have hl := hid h.length
  obtain ⟨b, off, y, hq, hbk, hx, y0⟩ := get_w hS (show 0 < m + 1 by omega)
  subst hq
  obtain rfl : s = y := by have := hx.out; simpa using this
  rw [Nat.add_zero] at y0
  clear hx
  have hm0 : (0 : Int) < ((m + 1 : Nat) : Int) := by omega
  have hm1 : ¬ (((m + 1 : Nat) : Int) = 0) := by omega
  have hm2 : (1 : Int) ≤ (m : Int) + 1 := by omega
  have hm3 : (1 : Int) ≤ ((m + 1 : Nat) : Int) := by omega
  go_enter Tryz.func17, Tryz.ntmps17
  go_upto_region 1 with (fail)
  generalize hW : World.alloc (World.alloc _ _) _ = W0
  obtain ⟨E0, z0, b0, b1⟩ := boxes2 hW
  clear hW z0
  replace b0 := hid (show Blk W0 (w.heap.size) [_] _ from b0)
  replace b1 := hid (show Blk W0 (w.heap.size + 1) (encEd zE) _ from b1)
  have g0 := b0.out.cells
  have l0 := b0.out.lt
  have E := Ext.refl W0
  have y1 := hid ((E0.cells _ _ hbk).trans y0)
  have hbk1 := hid (Nat.lt_of_lt_of_le hbk E0.le)
  have y2 := y1.out
  have hb2 := hbk1.out
  go_upto_region 6 with (go_at_call 31; refine (pKinds_7 s _ hj).mono ?_; rintro e w2 ⟨rfl, rfl⟩)
  have x0 := g0 0
  simp only [List.getElem?_cons_zero] at x0
  go_region_held3 (fun V => V.cell? ⟨w.heap.size, 0, none⟩ = some (.slice p n c)) (first | exact x0 | exact (E7.cells _ _ l0).trans x0) (first | ((go_at_call 32); refine (pReadW (kpJ 7) (kdJ 7) [a1, a2] l p _ n c m _ base base2 _ ((hV.ext E0).ext (Ext.refl _).drew) (h.ext CeR.ok (E0.trans (Ext.refl _).drew)) hn (tail_w (hS.ext okStr (E0.trans (Ext.refl _).drew)) hd) hm (fun y hy => hws y (List.mem_cons_of_mem _ hy)) kpJ_size7 (by decide) kpB7 kpT7).mono ?_; rw [hrw, hvs.out]; rintro e w7 ⟨q3, n3, d3, rfl, hv, E7⟩; replace hv := hid hv; generalize (ite (d = 1) _ _) = q9))
  replace E7 := (Ext.refl _).drew.trans E7
  clear g0 l0 y2 hb2 x0
  have g0 := (b0.out.ext E7).cells
  have l0 := (b0.out.ext E7).lt
  have y2 := (E7.cells _ _ hbk1.out).trans y1.out
  have hb2 := Nat.lt_of_lt_of_le hbk1.out E7.le
  obtain ⟨hn3, hv9⟩ := hv.out (by first | trivial | rfl)
  clear hv
  obtain rfl : n3 = 2 := hn3
  have hv : SlD (Fl enc1) 1 _ w7 q3 2 [(kc : Int), V2] := hv9
  obtain ⟨bq, oq, hq3, hbq⟩ := slice_at hv (by omega)
  subst hq3
  have vH0 := hid (get_i hv (k := 0) rfl)
  have vH1 := hid (get_i hv (k := 1) rfl)
  have wH1 := hid ((E7.cells _ _ hbk1.out).trans ((E0.cells _ _ hbk).trans (get_s hS (k := 1) rfl)))
  have wH2 := hid ((E7.cells _ _ hbk1.out).trans ((E0.cells _ _ hbk).trans (get_s hS (k := 2) rfl)))
  have hbqH := hid hbq
  have hbH := hid hb2
  clear hv hbq
  have t8 := hid (there_blk (((Blk.new w7 (encEd zE) 39).alloc (.cells zC.toArray 72))))
  go_upto_region 10 with (first | (refine wpList_build rfl 39 #[] rfl [] rfl (encEd zE).toArray built_zE ?_) | (refine wpList_build rfl 72 #[] rfl [] rfl zC.toArray built_zC ?_) | (((with_reducible refine at_store ?_); refine wpList_store_mid rfl 39 (Operand.tmp 10) _ rfl (w7.heap.size) 0 (encEd zE).toArray rfl rfl t8.out (sz_Ed _) (one_Edit _) ?_); generalize hV8 : World.setCells _ _ _ _ = W8; obtain ⟨bo8, bc8, E8⟩ := two_new hV8; clear hV8; have t9 := hid (there_blk bc8)) | ((with_reducible refine at_store ?_); refine wpList_store_mid rfl 72 (Operand.tmp 11) _ rfl (w7.heap.size + 1) 0 zC.toArray rfl rfl t9.out sz_Ce one_zC ?_))
  generalize hV9 : World.setCells _ _ _ _ = W9
  have bO := hid (show Blk W9 w7.heap.size (encEd zE) 39 by rw [← hV9]; exact bo8.mut (Mut.setCells (S := [w7.heap.size + 1]) (by simp) _ _ _ (Mut.refl _ _)) (by simp))
  have bC := hid (show Blk W9 (w7.heap.size + 1) zC 72 by rw [← hV9]; exact bc8.setAll rfl)
  have E9 := hid (show Ext w7 W9 by rw [← hV9]; exact ext_setCells (Nat.le_succ _) _ _ _ E8)
  clear hV9 bo8 bc8 E8 t8 t9 g0 l0 y2 hb2
  have hbt := get_bt (kpJ 7)
  have hk0 : (0 : Int) < (kpJ 7).size := by rw [kpJ_size7]; decide
  have hk1 : 0 < (kpJ 7).size := by rw [kpJ_size7]; decide
  have hkb : bt (kpJ 7) 0 = 99 := (kpB7 0 0 rfl).2
  have hs := kw_7 hj
  have x0 := (E9.out.cells _ _ ((b0.out.ext E7).lt)).trans (((b0.out.ext E7).cells) 0)
  have l0 := Nat.lt_of_lt_of_le ((b0.out.ext E7).lt) E9.out.le
  simp only [List.getElem?_cons_zero] at x0
  have y2 := (E9.out.cells _ _ hbH.out).trans ((E7.cells _ _ hbk1.out).trans y1.out)
  have hb2 := Nat.lt_of_lt_of_le hbH.out E9.out.le
  have v0 := (E9.out.cells _ _ hbqH.out).trans vH0.out
  have v1 := (E9.out.cells _ _ hbqH.out).trans vH1.out
  rw [Nat.add_zero] at v0
  have hbq := Nat.lt_of_lt_of_le hbqH.out E9.out.le
  have z1 := (E9.out.cells _ _ hbH.out).trans wH1.out
  have z2 := (E9.out.cells _ _ hbH.out).trans wH2.out
  have hi1 : (1 : Int) < (m : Int) + 1 := by have := hmr.out; omega
  have hi2 : (2 : Int) < (m : Int) + 1 := by have := hmr.out; omega
  have ne1 : b ≠ w7.heap.size := by have := hbH.out; omega
  have ne2 : bq ≠ w7.heap.size := by have := hbqH.out; omega
  have ne3 : w.heap.size ≠ w7.heap.size := by have := (b0.out.ext E7).lt; omega
  have ne4 : w7.heap.size + 1 ≠ w7.heap.size := by omega
  have bO2 := hid (show Blk W9 w7.heap.size [.int .i64 0, .int .i64 0, .int .i64 0, .string ⟨#[]⟩, .int .i64 0, .int .i64 0, .int .i64 0, .int .i64 0, .int .i64 0, .int .i64 0, .int .i64 0, .int .i64 0, .string ⟨#[]⟩, .int .i64 0, .int .i64 0, .int .i64 0, .int .i64 0, .int .i64 0, .int .i64 0, .int .i64 0, .int .i64 0] 39 from bO.out)
  have bC2 := hid (show Blk W9 (w7.heap.size + 1) [.string ⟨#[]⟩, .slice none 0 0, .slice none 0 0, .slice none 0 0] 72 from bC.out)
  clear bO bC
  have bO := bO2
  have bC := bC2
  clear bO2 bC2
  have gO : ∀ j, W9.cell? ⟨w7.heap.size, j, none⟩ = [.int .i64 0, .int .i64 0, .int .i64 0, .string ⟨#[]⟩, .int .i64 0, .int .i64 0, .int .i64 0, .int .i64 0, .int .i64 0, .int .i64 0, .int .i64 0, .int .i64 0, .string ⟨#[]⟩, .int .i64 0, .int .i64 0, .int .i64 0, .int .i64 0, .int .i64 0, .int .i64 0, .int .i64 0, .int .i64 0][j]? := bO.out.cells
  have fO := bO.out.free
  have lO := bO.out.lt
  have gC : ∀ j, W9.cell? ⟨w7.heap.size + 1, j, none⟩ = [.string ⟨#[]⟩, .slice none 0 0, .slice none 0 0, .slice none 0 0][j]? := bC.out.cells
  have fC := bC.out.free
  have lC := bC.out.lt
  go_upto_region 12 with (fail)
  clear gO fO lO gC fC lC x0 l0 y2 hb2 hbq v0 v1 z1 z2
  have bO2 := (bO.out.set 1 (.int .i64 (kc : Int)))
  simp only [List.set_cons_zero, List.set_cons_succ] at bO2
  have bC2 := (bC.out.other (B := w7.heap.size) 1 (.int .i64 (kc : Int)) (by omega))
  have E92 := (E9.out.setCell (p := ⟨w7.heap.size, 1, none⟩) (Nat.le_refl _) (.int .i64 (kc : Int)))
  generalize hV : World.setCell _ _ _ = Wn1
  have bO3 := hid (show Blk Wn1 w7.heap.size [.int .i64 0, .int .i64 (kc : Int), .int .i64 0, .string ⟨#[]⟩, .int .i64 0, .int .i64 0, .int .i64 0, .int .i64 0, .int .i64 0, .int .i64 0, .int .i64 0, .int .i64 0, .string ⟨#[]⟩, .int .i64 0, .int .i64 0, .int .i64 0, .int .i64 0, .int .i64 0, .int .i64 0, .int .i64 0, .int .i64 0] 39 from by rw [← hV]; exact bO2)
  have bC3 := hid (show Blk Wn1 (w7.heap.size + 1) [.string ⟨#[]⟩, .slice none 0 0, .slice none 0 0, .slice none 0 0] 72 from by rw [← hV]; exact bC2)
  have E93 := hid (show Ext w7 Wn1 from by rw [← hV]; exact E92)
  clear hV bO bC E9 bO2 bC2 E92
  have bO := bO3
  have bC := bC3
  have E9 := E93
  clear bO3 bC3 E93
  have x0 := (E9.out.cells _ _ ((b0.out.ext E7).lt)).trans (((b0.out.ext E7).cells) 0)
  have l0 := Nat.lt_of_lt_of_le ((b0.out.ext E7).lt) E9.out.le
  simp only [List.getElem?_cons_zero] at x0
  have y2 := (E9.out.cells _ _ hbH.out).trans ((E7.cells _ _ hbk1.out).trans y1.out)
  have hb2 := Nat.lt_of_lt_of_le hbH.out E9.out.le
  have v0 := (E9.out.cells _ _ hbqH.out).trans vH0.out
  have v1 := (E9.out.cells _ _ hbqH.out).trans vH1.out
  rw [Nat.add_zero] at v0
  have hbq := Nat.lt_of_lt_of_le hbqH.out E9.out.le
  have z1 := (E9.out.cells _ _ hbH.out).trans wH1.out
  have z2 := (E9.out.cells _ _ hbH.out).trans wH2.out
  have gO : ∀ j, Wn1.cell? ⟨w7.heap.size, j, none⟩ = [.int .i64 0, .int .i64 (kc : Int), .int .i64 0, .string ⟨#[]⟩, .int .i64 0, .int .i64 0, .int .i64 0, .int .i64 0, .int .i64 0, .int .i64 0, .int .i64 0, .int .i64 0, .string ⟨#[]⟩, .int .i64 0, .int .i64 0, .int .i64 0, .int .i64 0, .int .i64 0, .int .i64 0, .int .i64 0, .int .i64 0][j]? := bO.out.cells
  have fO := bO.out.free
  have lO := bO.out.lt
  have gC : ∀ j, Wn1.cell? ⟨w7.heap.size + 1, j, none⟩ = [.string ⟨#[]⟩, .slice none 0 0, .slice none 0 0, .slice none 0 0][j]? := bC.out.cells
  have fC := bC.out.free
  have lC := bC.out.lt
  have hkn : kc < n := by have := (List.getElem?_eq_some_iff.1 hce.out).1; have := hl.out; omega
  have hknI : (kc : Int) < n := by omega
  obtain ⟨bl, ofl, ye, cs, hpl, hbl, hxl, hcs, hcl⟩ := (h.ext CeR.ok (E0.trans (E7.trans E9.out))).get hkn
  subst hpl
  obtain rfl : ce = ye := Option.some.inj (hce.out.symm.trans hxl.out)
  obtain ⟨p1, n1, c1, p2, n2, c2, p3, n3, c3, rfl, s1, s2, s3⟩ := hcs
  have c0 := hcl 0 _ rfl
  rw [Nat.add_zero] at c0
  have c10 := hcl 1 _ rfl
  have c20 := hcl 2 _ rfl
  have c30 := hcl 3 _ rfl
  have ln1 := hid s1.length
  have ln2 := hid s2.length
  have ln3 := hid s3.length
  clear hcl s1 s2 s3
  go_region
  clear c0 c10 c20 c30 hbl
  clear gO fO lO gC fC lC x0 l0 y2 hb2 hbq v0 v1 z1 z2
  have bO2 := Blk.drew ((((bO.out.other (B := w7.heap.size + 1) 0 (.string ce.s) (by omega)).other (B := w7.heap.size + 1) 1 (.slice p1 n1 c1) (by omega)).other (B := w7.heap.size + 1) 2 (.slice p2 n2 c2) (by omega)).other (B := w7.heap.size + 1) 3 (.slice p3 n3 c3) (by omega))
  have bC2 := Blk.drew ((((bC.out.set 0 (.string ce.s)).set 1 (.slice p1 n1 c1)).set 2 (.slice p2 n2 c2)).set 3 (.slice p3 n3 c3))
  simp only [List.set_cons_zero, List.set_cons_succ] at bC2
  have E92 := Ext.drew ((((E9.out.setCell (p := ⟨w7.heap.size + 1, 0, none⟩) (Nat.le_succ _) (.string ce.s)).setCell (p := ⟨w7.heap.size + 1, 1, none⟩) (Nat.le_succ _) (.slice p1 n1 c1)).setCell (p := ⟨w7.heap.size + 1, 2, none⟩) (Nat.le_succ _) (.slice p2 n2 c2)).setCell (p := ⟨w7.heap.size + 1, 3, none⟩) (Nat.le_succ _) (.slice p3 n3 c3))
  generalize hV : World.drew _ = Wn2
  have bO3 := hid (show Blk Wn2 w7.heap.size [.int .i64 0, .int .i64 (kc : Int), .int .i64 0, .string ⟨#[]⟩, .int .i64 0, .int .i64 0, .int .i64 0, .int .i64 0, .int .i64 0, .int .i64 0, .int .i64 0, .int .i64 0, .string ⟨#[]⟩, .int .i64 0, .int .i64 0, .int .i64 0, .int .i64 0, .int .i64 0, .int .i64 0, .int .i64 0, .int .i64 0] 39 from by rw [← hV]; exact bO2)
  have bC3 := hid (show Blk Wn2 (w7.heap.size + 1) [.string ce.s, .slice p1 n1 c1, .slice p2 n2 c2, .slice p3 n3 c3] 72 from by rw [← hV]; exact bC2)
  have E93 := hid (show Ext w7 Wn2 from by rw [← hV]; exact E92)
  clear hV bO bC E9 bO2 bC2 E92
  have bO := bO3
  have bC := bC3
  have E9 := E93
  clear bO3 bC3 E93
  have x0 := (E9.out.cells _ _ ((b0.out.ext E7).lt)).trans (((b0.out.ext E7).cells) 0)
  have l0 := Nat.lt_of_lt_of_le ((b0.out.ext E7).lt) E9.out.le
  simp only [List.getElem?_cons_zero] at x0
  have y2 := (E9.out.cells _ _ hbH.out).trans ((E7.cells _ _ hbk1.out).trans y1.out)
  have hb2 := Nat.lt_of_lt_of_le hbH.out E9.out.le
  have v0 := (E9.out.cells _ _ hbqH.out).trans vH0.out
  have v1 := (E9.out.cells _ _ hbqH.out).trans vH1.out
  rw [Nat.add_zero] at v0
  have hbq := Nat.lt_of_lt_of_le hbqH.out E9.out.le
  have z1 := (E9.out.cells _ _ hbH.out).trans wH1.out
  have z2 := (E9.out.cells _ _ hbH.out).trans wH2.out
  have gO : ∀ j, Wn2.cell? ⟨w7.heap.size, j, none⟩ = [.int .i64 0, .int .i64 (kc : Int), .int .i64 0, .string ⟨#[]⟩, .int .i64 0, .int .i64 0, .int .i64 0, .int .i64 0, .int .i64 0, .int .i64 0, .int .i64 0, .int .i64 0, .string ⟨#[]⟩, .int .i64 0, .int .i64 0, .int .i64 0, .int .i64 0, .int .i64 0, .int .i64 0, .int .i64 0, .int .i64 0][j]? := bO.out.cells
  have fO := bO.out.free
  have lO := bO.out.lt
  have gC : ∀ j, Wn2.cell? ⟨w7.heap.size + 1, j, none⟩ = [.string ce.s, .slice p1 n1 c1, .slice p2 n2 c2, .slice p3 n3 c3][j]? := bC.out.cells
  have fC := bC.out.free
  have lC := bC.out.lt
  go_upto_region 33 with (fail)
  go_region
  clear gO fO lO gC fC lC x0 l0 y2 hb2 hbq v0 v1 z1 z2
  have bO2 := Blk.drew ((bO.out.set 0 (.int .i64 2)).set 2 (.int .i64 V2))
  simp only [List.set_cons_zero, List.set_cons_succ] at bO2
  have bC2 := Blk.drew ((bC.out.other (B := w7.heap.size) 0 (.int .i64 2) (by omega)).other (B := w7.heap.size) 2 (.int .i64 V2) (by omega))
  have E92 := Ext.drew ((E9.out.setCell (p := ⟨w7.heap.size, 0, none⟩) (Nat.le_refl _) (.int .i64 2)).setCell (p := ⟨w7.heap.size, 2, none⟩) (Nat.le_refl _) (.int .i64 V2))
  generalize hV : World.drew _ = Wn3
  have bO3 := hid (show Blk Wn3 w7.heap.size [.int .i64 2, .int .i64 (kc : Int), .int .i64 V2, .string ⟨#[]⟩, .int .i64 0, .int .i64 0, .int .i64 0, .int .i64 0, .int .i64 0, .int .i64 0, .int .i64 0, .int .i64 0, .string ⟨#[]⟩, .int .i64 0, .int .i64 0, .int .i64 0, .int .i64 0, .int .i64 0, .int .i64 0, .int .i64 0, .int .i64 0] 39 from by rw [← hV]; exact bO2)
  have bC3 := hid (show Blk Wn3 (w7.heap.size + 1) [.string ce.s, .slice p1 n1 c1, .slice p2 n2 c2, .slice p3 n3 c3] 72 from by rw [← hV]; exact bC2)
  have E93 := hid (show Ext w7 Wn3 from by rw [← hV]; exact E92)
  clear hV bO bC E9 bO2 bC2 E92
  have bO := bO3
  have bC := bC3
  have E9 := E93
  clear bO3 bC3 E93
  have x0 := (E9.out.cells _ _ ((b0.out.ext E7).lt)).trans (((b0.out.ext E7).cells) 0)
  have l0 := Nat.lt_of_lt_of_le ((b0.out.ext E7).lt) E9.out.le
  simp only [List.getElem?_cons_zero] at x0
  have y2 := (E9.out.cells _ _ hbH.out).trans ((E7.cells _ _ hbk1.out).trans y1.out)
  have hb2 := Nat.lt_of_lt_of_le hbH.out E9.out.le
  have v0 := (E9.out.cells _ _ hbqH.out).trans vH0.out
  have v1 := (E9.out.cells _ _ hbqH.out).trans vH1.out
  rw [Nat.add_zero] at v0
  have hbq := Nat.lt_of_lt_of_le hbqH.out E9.out.le
  have z1 := (E9.out.cells _ _ hbH.out).trans wH1.out
  have z2 := (E9.out.cells _ _ hbH.out).trans wH2.out
  have gO : ∀ j, Wn3.cell? ⟨w7.heap.size, j, none⟩ = [.int .i64 2, .int .i64 (kc : Int), .int .i64 V2, .string ⟨#[]⟩, .int .i64 0, .int .i64 0, .int .i64 0, .int .i64 0, .int .i64 0, .int .i64 0, .int .i64 0, .int .i64 0, .string ⟨#[]⟩, .int .i64 0, .int .i64 0, .int .i64 0, .int .i64 0, .int .i64 0, .int .i64 0, .int .i64 0, .int .i64 0][j]? := bO.out.cells
  have fO := bO.out.free
  have lO := bO.out.lt
  have gC : ∀ j, Wn3.cell? ⟨w7.heap.size + 1, j, none⟩ = [.string ce.s, .slice p1 n1 c1, .slice p2 n2 c2, .slice p3 n3 c3][j]? := bC.out.cells
  have fC := bC.out.free
  have lC := bC.out.lt
  clear gO fO lO gC fC lC x0 l0 y2 hb2 hbq v0 v1 z1 z2
  have bE := hid (show Blk Wn3 w7.heap.size (encEd ⟨2, (kc : Int), V2, emp, zS, zL, zI⟩) 39 from bO.out)
  have rE := hid (range_blk bE.out)
  have hmk : Hid (mkE l 7 [a1, a2] [(kc : Int), V2] = ⟨2, (kc : Int), V2, emp, zS, zL, zI⟩) := by show _ = _; rfl
  have hcI : Hid (Calls Tryz.prog 33 #[.agg (encEd ⟨2, (kc : Int), V2, emp, zS, zL, zI⟩).toArray] Wn3 fun e w' => e = .returned (.bool (edP ⟨2, (kc : Int), V2, emp, zS, zL, zI⟩)) ∧ Ext Wn3 w') := hid (pEdit_any _ _ _ _ _ _ _ _ (by show (0 : Nat) ≤ 9223372036854775807; exact Nat.zero_le _) (by show (0 : Nat) ≤ 9223372036854775807; exact Nat.zero_le _))
  rw [← hvs.out] at hmk
  cases hP : edP ⟨2, (kc : Int), V2, emp, zS, zL, zI⟩ with
  | true =>
    have hr := hid (edV_ok (l := l) hj hrw (by rw [hmk.out]; exact hP))
    rw [hmk.out] at hr
    rw [hP] at hcI
    clear hP
    go_wp2_with (first | (refine wpList_build rfl 39 #[] rfl [] rfl (encEd zE).toArray built_zE ?_) | ((with_reducible refine at_dst 193 ?_); refine wpList_load_mid rfl 39 (Operand.tmp 10) rfl (w7.heap.size) 0 rfl (encEd ⟨2, (kc : Int), V2, emp, zS, zL, zI⟩) _ rE.out Tryz.underlying39 rfl (sz_Ed2 _) ?_) | (go_at_call 33; refine hcI.out.mono ?_; rintro e w8 ⟨rfl, E8⟩; have rE8 := hid (range_blk (bE.out.ext E8)); have r1 := hid (there_blk ((b1.out.ext E7).ext (E9.out.trans E8)))) | ((with_reducible refine at_dst 197 ?_); refine wpList_load_mid rfl 39 (Operand.tmp 10) rfl (w7.heap.size) 0 rfl (encEd ⟨2, (kc : Int), V2, emp, zS, zL, zI⟩) _ rE8.out Tryz.underlying39 rfl (sz_Ed2 _) ?_) | ((with_reducible refine at_store ?_); refine wpList_store_mid rfl 39 (Operand.tmp 4) _ rfl (w.heap.size + 1) 0 (encEd ⟨2, (kc : Int), V2, emp, zS, zL, zI⟩).toArray rfl rfl r1.out (sz_Ed _) (one_Edit _) ?_))
    generalize hV9 : World.setCells _ _ _ _ = W9
    have kB : Blk W9 (w.heap.size + 1) (encEd ⟨2, (kc : Int), V2, emp, zS, zL, zI⟩) 39 := by rw [← hV9]; exact ((b1.out.ext E7).ext (E9.out.trans E8)).setAll (vs := encEd ⟨2, (kc : Int), V2, emp, zS, zL, zI⟩) rfl
    have hE2 : Ext w W9 := by rw [← hV9]; exact ext_setCells (by omega) _ _ _ (E0.trans (E7.trans (E9.out.trans E8)))
    clear hV9
    exact bodyPost_ret (v := .tuple #[.agg (encEd ⟨2, (kc : Int), V2, emp, zS, zL, zI⟩).toArray, .int .i64 0]) (results_cell_tmp Tryz.results17 _ _ (w.heap.size + 1) 39 (encEd ⟨2, (kc : Int), V2, emp, zS, zL, zI⟩).toArray (0, 0) _ rfl kB Tryz.underlying39 rfl (sz_Ed _)) rfl ⟨by rw [hr.out], hE2⟩
  | false =>
    have hr := hid (edV_inv (l := l) hj hrw (by rw [hmk.out]; exact hP))
    rw [hP] at hcI
    clear hP
    go_wp2_with (first | (refine wpList_build rfl 39 #[] rfl [] rfl (encEd zE).toArray built_zE ?_) | ((with_reducible refine at_dst 193 ?_); refine wpList_load_mid rfl 39 (Operand.tmp 10) rfl (w7.heap.size) 0 rfl (encEd ⟨2, (kc : Int), V2, emp, zS, zL, zI⟩) _ rE.out Tryz.underlying39 rfl (sz_Ed2 _) ?_) | (go_at_call 33; refine hcI.out.mono ?_; rintro e w8 ⟨rfl, E8⟩; have r1 := hid (there_blk ((b1.out.ext E7).ext (E9.out.trans E8)))) | ((with_reducible refine at_store ?_); refine wpList_store_mid rfl 39 (Operand.tmp 4) _ rfl (w.heap.size + 1) 0 (encEd zE).toArray rfl rfl r1.out (sz_Ed _) (one_Edit _) ?_))
    generalize hV9 : World.setCells _ _ _ _ = W9
    have kB : Blk W9 (w.heap.size + 1) (encEd zE) 39 := by rw [← hV9]; exact ((b1.out.ext E7).ext (E9.out.trans E8)).setAll (vs := encEd zE) rfl
    have hE2 : Ext w W9 := by rw [← hV9]; exact ext_setCells (by omega) _ _ _ (E0.trans (E7.trans (E9.out.trans E8)))
    clear hV9
    exact bodyPost_ret (v := .tuple #[.agg (encEd zE).toArray, .int .i64 1]) (results_cell_tmp Tryz.results17 _ _ (w.heap.size + 1) 39 (encEd zE).toArray (0, 0) _ rfl kB Tryz.underlying39 rfl (sz_Ed _)) rfl ⟨by rw [hr.out], hE2⟩

set_option maxRecDepth 100000 in
set_option maxHeartbeats 4000000 in
theorem pEditOf_good8 (s : ByteArray) (ws : List ByteArray) (l : List CeD) (p q : Option Addr) (n c m d base base2 : Nat) (w : World) (hV : Vrs w) (h : SlD CeR 4 base w p n l) (hn : n ≤ 1048576) (hS : SlD (Fl encW) 1 base2 w q (m + 1) (s :: ws)) (hm : m ≤ 1048576) (hd : m + 1 ≤ d) (hws : ∀ y ∈ s :: ws, y.size ≤ 1048576) (hj : kwX s = some 8) (hrw : rwV l (kdJ 8) ws = 0) :
    Calls Tryz.prog 17 #[.agg #[.slice p n c], .slice q (m + 1) d] w fun e w' => e = .returned (.tuple #[.agg (encEd (edV l (s :: ws)).1).toArray, .int .i64 (edV l (s :: ws)).2]) ∧ Ext w w' := by
  obtain ⟨hlen, hrf⟩ := rw_ok hrw
  have hlen2 : ws.length = 2 := hlen
  clear hlen
  obtain ⟨a1, ws1, rfl⟩ : ∃ a t, ws = a :: t := by
    cases ws with
    | nil => simp at hlen2
    | cons a t => exact ⟨a, t, rfl⟩
  obtain ⟨a2, ws2, rfl⟩ : ∃ a t, ws1 = a :: t := by
    cases ws1 with
    | nil => simp at hlen2
    | cons a t => exact ⟨a, t, rfl⟩
  obtain rfl : ws2 = [] := by
    cases ws2 with
    | nil => rfl
    | cons a t => simp at hlen2
  clear hlen2
  have hmr := hid (show m = 2 by have := hS.length; simp at this; omega)
  obtain ⟨kc, ce, hkc, hce⟩ := cell_at (rwF_head hrf).1
  have hV1 := hid hkc.symm
  clear hkc
  replace hce := hid hce
  obtain ⟨V2, hV2⟩ : ∃ V, Hid (V = wN l 3 a2) := ⟨_, hid rfl⟩
  have hvs : Hid (vsV l (kdJ 8) [a1, a2] = [(kc : Int), V2]) := by
    show _ = _
    rw [hV1.out, hV2.out]
    rfl
  clear hrf
  have hl := hid h.length
  obtain ⟨b, off, y, hq, hbk, hx, y0⟩ := get_w hS (show 0 < m + 1 by omega)
  subst hq
  obtain rfl : s = y := by have := hx.out; simpa using this
  rw [Nat.add_zero] at y0
  clear hx
  have hm0 : (0 : Int) < ((m + 1 : Nat) : Int) := by omega
  have hm1 : ¬ (((m + 1 : Nat) : Int) = 0) := by omega
  have hm2 : (1 : Int) ≤ (m : Int) + 1 := by omega
  have hm3 : (1 : Int) ≤ ((m + 1 : Nat) : Int) := by omega
  go_enter Tryz.func17, Tryz.ntmps17
  go_upto_region 1 with (fail)
  generalize hW : World.alloc (World.alloc _ _) _ = W0
  obtain ⟨E0, z0, b0, b1⟩ := boxes2 hW
  clear hW z0
  replace b0 := hid (show Blk W0 (w.heap.size) [_] _ from b0)
  replace b1 := hid (show Blk W0 (w.heap.size + 1) (encEd zE) _ from b1)
  have g0 := b0.out.cells
  have l0 := b0.out.lt
  have E := Ext.refl W0
  have y1 := hid ((E0.cells _ _ hbk).trans y0)
  have hbk1 := hid (Nat.lt_of_lt_of_le hbk E0.le)
  have y2 := y1.out
  have hb2 := hbk1.out
  go_upto_region 6 with (go_at_call 31; refine (pKinds_8 s _ hj).mono ?_; rintro e w2 ⟨rfl, rfl⟩)
  have x0 := g0 0
  simp only [List.getElem?_cons_zero] at x0
  go_region_held3 (fun V => V.cell? ⟨w.heap.size, 0, none⟩ = some (.slice p n c)) (first | exact x0 | exact (E7.cells _ _ l0).trans x0) (first | ((go_at_call 32); refine (pReadW (kpJ 8) (kdJ 8) [a1, a2] l p _ n c m _ base base2 _ ((hV.ext E0).ext (Ext.refl _).drew) (h.ext CeR.ok (E0.trans (Ext.refl _).drew)) hn (tail_w (hS.ext okStr (E0.trans (Ext.refl _).drew)) hd) hm (fun y hy => hws y (List.mem_cons_of_mem _ hy)) kpJ_size8 (by decide) kpB8 kpT8).mono ?_; rw [hrw, hvs.out]; rintro e w7 ⟨q3, n3, d3, rfl, hv, E7⟩; replace hv := hid hv; generalize (ite (d = 1) _ _) = q9))
  replace E7 := (Ext.refl _).drew.trans E7
  clear g0 l0 y2 hb2 x0
  have g0 := (b0.out.ext E7).cells
  have l0 := (b0.out.ext E7).lt
  have y2 := (E7.cells _ _ hbk1.out).trans y1.out
  have hb2 := Nat.lt_of_lt_of_le hbk1.out E7.le
  obtain ⟨hn3, hv9⟩ := hv.out (by first | trivial | rfl)
  clear hv
  obtain rfl : n3 = 2 := hn3
  have hv : SlD (Fl enc1) 1 _ w7 q3 2 [(kc : Int), V2] := hv9
  obtain ⟨bq, oq, hq3, hbq⟩ := slice_at hv (by omega)
  subst hq3
  have vH0 := hid (get_i hv (k := 0) rfl)
  have vH1 := hid (get_i hv (k := 1) rfl)
  have wH1 := hid ((E7.cells _ _ hbk1.out).trans ((E0.cells _ _ hbk).trans (get_s hS (k := 1) rfl)))
  have wH2 := hid ((E7.cells _ _ hbk1.out).trans ((E0.cells _ _ hbk).trans (get_s hS (k := 2) rfl)))
  have hbqH := hid hbq
  have hbH := hid hb2
  clear hv hbq
  have t8 := hid (there_blk (((Blk.new w7 (encEd zE) 39).alloc (.cells zC.toArray 72))))
  go_upto_region 10 with (first | (refine wpList_build rfl 39 #[] rfl [] rfl (encEd zE).toArray built_zE ?_) | (refine wpList_build rfl 72 #[] rfl [] rfl zC.toArray built_zC ?_) | (((with_reducible refine at_store ?_); refine wpList_store_mid rfl 39 (Operand.tmp 10) _ rfl (w7.heap.size) 0 (encEd zE).toArray rfl rfl t8.out (sz_Ed _) (one_Edit _) ?_); generalize hV8 : World.setCells _ _ _ _ = W8; obtain ⟨bo8, bc8, E8⟩ := two_new hV8; clear hV8; have t9 := hid (there_blk bc8)) | ((with_reducible refine at_store ?_); refine wpList_store_mid rfl 72 (Operand.tmp 11) _ rfl (w7.heap.size + 1) 0 zC.toArray rfl rfl t9.out sz_Ce one_zC ?_))
  generalize hV9 : World.setCells _ _ _ _ = W9
  have bO := hid (show Blk W9 w7.heap.size (encEd zE) 39 by rw [← hV9]; exact bo8.mut (Mut.setCells (S := [w7.heap.size + 1]) (by simp) _ _ _ (Mut.refl _ _)) (by simp))
  have bC := hid (show Blk W9 (w7.heap.size + 1) zC 72 by rw [← hV9]; exact bc8.setAll rfl)
  have E9 := hid (show Ext w7 W9 by rw [← hV9]; exact ext_setCells (Nat.le_succ _) _ _ _ E8)
  clear hV9 bo8 bc8 E8 t8 t9 g0 l0 y2 hb2
  have hbt := get_bt (kpJ 8)
  have hk0 : (0 : Int) < (kpJ 8).size := by rw [kpJ_size8]; decide
  have hk1 : 0 < (kpJ 8).size := by rw [kpJ_size8]; decide
  have hkb : bt (kpJ 8) 0 = 99 := (kpB8 0 0 rfl).2
  have hs := kw_8 hj
  have x0 := (E9.out.cells _ _ ((b0.out.ext E7).lt)).trans (((b0.out.ext E7).cells) 0)
  have l0 := Nat.lt_of_lt_of_le ((b0.out.ext E7).lt) E9.out.le
  simp only [List.getElem?_cons_zero] at x0
  have y2 := (E9.out.cells _ _ hbH.out).trans ((E7.cells _ _ hbk1.out).trans y1.out)
  have hb2 := Nat.lt_of_lt_of_le hbH.out E9.out.le
  have v0 := (E9.out.cells _ _ hbqH.out).trans vH0.out
  have v1 := (E9.out.cells _ _ hbqH.out).trans vH1.out
  rw [Nat.add_zero] at v0
  have hbq := Nat.lt_of_lt_of_le hbqH.out E9.out.le
  have z1 := (E9.out.cells _ _ hbH.out).trans wH1.out
  have z2 := (E9.out.cells _ _ hbH.out).trans wH2.out
  have hi1 : (1 : Int) < (m : Int) + 1 := by have := hmr.out; omega
  have hi2 : (2 : Int) < (m : Int) + 1 := by have := hmr.out; omega
  have ne1 : b ≠ w7.heap.size := by have := hbH.out; omega
  have ne2 : bq ≠ w7.heap.size := by have := hbqH.out; omega
  have ne3 : w.heap.size ≠ w7.heap.size := by have := (b0.out.ext E7).lt; omega
  have ne4 : w7.heap.size + 1 ≠ w7.heap.size := by omega
  have bO2 := hid (show Blk W9 w7.heap.size [.int .i64 0, .int .i64 0, .int .i64 0, .string ⟨#[]⟩, .int .i64 0, .int .i64 0, .int .i64 0, .int .i64 0, .int .i64 0, .int .i64 0, .int .i64 0, .int .i64 0, .string ⟨#[]⟩, .int .i64 0, .int .i64 0, .int .i64 0, .int .i64 0, .int .i64 0, .int .i64 0, .int .i64 0, .int .i64 0] 39 from bO.out)
  have bC2 := hid (show Blk W9 (w7.heap.size + 1) [.string ⟨#[]⟩, .slice none 0 0, .slice none 0 0, .slice none 0 0] 72 from bC.out)
  clear bO bC
  have bO := bO2
  have bC := bC2
  clear bO2 bC2
  have gO : ∀ j, W9.cell? ⟨w7.heap.size, j, none⟩ = [.int .i64 0, .int .i64 0, .int .i64 0, .string ⟨#[]⟩, .int .i64 0, .int .i64 0, .int .i64 0, .int .i64 0, .int .i64 0, .int .i64 0, .int .i64 0, .int .i64 0, .string ⟨#[]⟩, .int .i64 0, .int .i64 0, .int .i64 0, .int .i64 0, .int .i64 0, .int .i64 0, .int .i64 0, .int .i64 0][j]? := bO.out.cells
  have fO := bO.out.free
  have lO := bO.out.lt
  have gC : ∀ j, W9.cell? ⟨w7.heap.size + 1, j, none⟩ = [.string ⟨#[]⟩, .slice none 0 0, .slice none 0 0, .slice none 0 0][j]? := bC.out.cells
  have fC := bC.out.free
  have lC := bC.out.lt
  go_upto_region 12 with (fail)
  clear gO fO lO gC fC lC x0 l0 y2 hb2 hbq v0 v1 z1 z2
  have bO2 := (bO.out.set 1 (.int .i64 (kc : Int)))
  simp only [List.set_cons_zero, List.set_cons_succ] at bO2
  have bC2 := (bC.out.other (B := w7.heap.size) 1 (.int .i64 (kc : Int)) (by omega))
  have E92 := (E9.out.setCell (p := ⟨w7.heap.size, 1, none⟩) (Nat.le_refl _) (.int .i64 (kc : Int)))
  generalize hV : World.setCell _ _ _ = Wn1
  have bO3 := hid (show Blk Wn1 w7.heap.size [.int .i64 0, .int .i64 (kc : Int), .int .i64 0, .string ⟨#[]⟩, .int .i64 0, .int .i64 0, .int .i64 0, .int .i64 0, .int .i64 0, .int .i64 0, .int .i64 0, .int .i64 0, .string ⟨#[]⟩, .int .i64 0, .int .i64 0, .int .i64 0, .int .i64 0, .int .i64 0, .int .i64 0, .int .i64 0, .int .i64 0] 39 from by rw [← hV]; exact bO2)
  have bC3 := hid (show Blk Wn1 (w7.heap.size + 1) [.string ⟨#[]⟩, .slice none 0 0, .slice none 0 0, .slice none 0 0] 72 from by rw [← hV]; exact bC2)
  have E93 := hid (show Ext w7 Wn1 from by rw [← hV]; exact E92)
  clear hV bO bC E9 bO2 bC2 E92
  have bO := bO3
  have bC := bC3
  have E9 := E93
  clear bO3 bC3 E93
  have x0 := (E9.out.cells _ _ ((b0.out.ext E7).lt)).trans (((b0.out.ext E7).cells) 0)
  have l0 := Nat.lt_of_lt_of_le ((b0.out.ext E7).lt) E9.out.le
  simp only [List.getElem?_cons_zero] at x0
  have y2 := (E9.out.cells _ _ hbH.out).trans ((E7.cells _ _ hbk1.out).trans y1.out)
  have hb2 := Nat.lt_of_lt_of_le hbH.out E9.out.le
  have v0 := (E9.out.cells _ _ hbqH.out).trans vH0.out
  have v1 := (E9.out.cells _ _ hbqH.out).trans vH1.out
  rw [Nat.add_zero] at v0
  have hbq := Nat.lt_of_lt_of_le hbqH.out E9.out.le
  have z1 := (E9.out.cells _ _ hbH.out).trans wH1.out
  have z2 := (E9.out.cells _ _ hbH.out).trans wH2.out
  have gO : ∀ j, Wn1.cell? ⟨w7.heap.size, j, none⟩ = [.int .i64 0, .int .i64 (kc : Int), .int .i64 0, .string ⟨#[]⟩, .int .i64 0, .int .i64 0, .int .i64 0, .int .i64 0, .int .i64 0, .int .i64 0, .int .i64 0, .int .i64 0, .string ⟨#[]⟩, .int .i64 0, .int .i64 0, .int .i64 0, .int .i64 0, .int .i64 0, .int .i64 0, .int .i64 0, .int .i64 0][j]? := bO.out.cells
  have fO := bO.out.free
  have lO := bO.out.lt
  have gC : ∀ j, Wn1.cell? ⟨w7.heap.size + 1, j, none⟩ = [.string ⟨#[]⟩, .slice none 0 0, .slice none 0 0, .slice none 0 0][j]? := bC.out.cells
  have fC := bC.out.free
  have lC := bC.out.lt
  have hkn : kc < n := by have := (List.getElem?_eq_some_iff.1 hce.out).1; have := hl.out; omega
  have hknI : (kc : Int) < n := by omega
  obtain ⟨bl, ofl, ye, cs, hpl, hbl, hxl, hcs, hcl⟩ := (h.ext CeR.ok (E0.trans (E7.trans E9.out))).get hkn
  subst hpl
  obtain rfl : ce = ye := Option.some.inj (hce.out.symm.trans hxl.out)
  obtain ⟨p1, n1, c1, p2, n2, c2, p3, n3, c3, rfl, s1, s2, s3⟩ := hcs
  have c0 := hcl 0 _ rfl
  rw [Nat.add_zero] at c0
  have c10 := hcl 1 _ rfl
  have c20 := hcl 2 _ rfl
  have c30 := hcl 3 _ rfl
  have ln1 := hid s1.length
  have ln2 := hid s2.length
  have ln3 := hid s3.length
  clear hcl s1 s2 s3
  go_region
  clear c0 c10 c20 c30 hbl
  clear gO fO lO gC fC lC x0 l0 y2 hb2 hbq v0 v1 z1 z2
  have bO2 := Blk.drew ((((bO.out.other (B := w7.heap.size + 1) 0 (.string ce.s) (by omega)).other (B := w7.heap.size + 1) 1 (.slice p1 n1 c1) (by omega)).other (B := w7.heap.size + 1) 2 (.slice p2 n2 c2) (by omega)).other (B := w7.heap.size + 1) 3 (.slice p3 n3 c3) (by omega))
  have bC2 := Blk.drew ((((bC.out.set 0 (.string ce.s)).set 1 (.slice p1 n1 c1)).set 2 (.slice p2 n2 c2)).set 3 (.slice p3 n3 c3))
  simp only [List.set_cons_zero, List.set_cons_succ] at bC2
  have E92 := Ext.drew ((((E9.out.setCell (p := ⟨w7.heap.size + 1, 0, none⟩) (Nat.le_succ _) (.string ce.s)).setCell (p := ⟨w7.heap.size + 1, 1, none⟩) (Nat.le_succ _) (.slice p1 n1 c1)).setCell (p := ⟨w7.heap.size + 1, 2, none⟩) (Nat.le_succ _) (.slice p2 n2 c2)).setCell (p := ⟨w7.heap.size + 1, 3, none⟩) (Nat.le_succ _) (.slice p3 n3 c3))
  generalize hV : World.drew _ = Wn2
  have bO3 := hid (show Blk Wn2 w7.heap.size [.int .i64 0, .int .i64 (kc : Int), .int .i64 0, .string ⟨#[]⟩, .int .i64 0, .int .i64 0, .int .i64 0, .int .i64 0, .int .i64 0, .int .i64 0, .int .i64 0, .int .i64 0, .string ⟨#[]⟩, .int .i64 0, .int .i64 0, .int .i64 0, .int .i64 0, .int .i64 0, .int .i64 0, .int .i64 0, .int .i64 0] 39 from by rw [← hV]; exact bO2)
  have bC3 := hid (show Blk Wn2 (w7.heap.size + 1) [.string ce.s, .slice p1 n1 c1, .slice p2 n2 c2, .slice p3 n3 c3] 72 from by rw [← hV]; exact bC2)
  have E93 := hid (show Ext w7 Wn2 from by rw [← hV]; exact E92)
  clear hV bO bC E9 bO2 bC2 E92
  have bO := bO3
  have bC := bC3
  have E9 := E93
  clear bO3 bC3 E93
  have x0 := (E9.out.cells _ _ ((b0.out.ext E7).lt)).trans (((b0.out.ext E7).cells) 0)
  have l0 := Nat.lt_of_lt_of_le ((b0.out.ext E7).lt) E9.out.le
  simp only [List.getElem?_cons_zero] at x0
  have y2 := (E9.out.cells _ _ hbH.out).trans ((E7.cells _ _ hbk1.out).trans y1.out)
  have hb2 := Nat.lt_of_lt_of_le hbH.out E9.out.le
  have v0 := (E9.out.cells _ _ hbqH.out).trans vH0.out
  have v1 := (E9.out.cells _ _ hbqH.out).trans vH1.out
  rw [Nat.add_zero] at v0
  have hbq := Nat.lt_of_lt_of_le hbqH.out E9.out.le
  have z1 := (E9.out.cells _ _ hbH.out).trans wH1.out
  have z2 := (E9.out.cells _ _ hbH.out).trans wH2.out
  have gO : ∀ j, Wn2.cell? ⟨w7.heap.size, j, none⟩ = [.int .i64 0, .int .i64 (kc : Int), .int .i64 0, .string ⟨#[]⟩, .int .i64 0, .int .i64 0, .int .i64 0, .int .i64 0, .int .i64 0, .int .i64 0, .int .i64 0, .int .i64 0, .string ⟨#[]⟩, .int .i64 0, .int .i64 0, .int .i64 0, .int .i64 0, .int .i64 0, .int .i64 0, .int .i64 0, .int .i64 0][j]? := bO.out.cells
  have fO := bO.out.free
  have lO := bO.out.lt
  have gC : ∀ j, Wn2.cell? ⟨w7.heap.size + 1, j, none⟩ = [.string ce.s, .slice p1 n1 c1, .slice p2 n2 c2, .slice p3 n3 c3][j]? := bC.out.cells
  have fC := bC.out.free
  have lC := bC.out.lt
  go_upto_region 35 with (fail)
  go_region
  clear gO fO lO gC fC lC x0 l0 y2 hb2 hbq v0 v1 z1 z2
  have bO2 := Blk.drew ((bO.out.set 0 (.int .i64 4)).set 2 (.int .i64 V2))
  simp only [List.set_cons_zero, List.set_cons_succ] at bO2
  have bC2 := Blk.drew ((bC.out.other (B := w7.heap.size) 0 (.int .i64 4) (by omega)).other (B := w7.heap.size) 2 (.int .i64 V2) (by omega))
  have E92 := Ext.drew ((E9.out.setCell (p := ⟨w7.heap.size, 0, none⟩) (Nat.le_refl _) (.int .i64 4)).setCell (p := ⟨w7.heap.size, 2, none⟩) (Nat.le_refl _) (.int .i64 V2))
  generalize hV : World.drew _ = Wn3
  have bO3 := hid (show Blk Wn3 w7.heap.size [.int .i64 4, .int .i64 (kc : Int), .int .i64 V2, .string ⟨#[]⟩, .int .i64 0, .int .i64 0, .int .i64 0, .int .i64 0, .int .i64 0, .int .i64 0, .int .i64 0, .int .i64 0, .string ⟨#[]⟩, .int .i64 0, .int .i64 0, .int .i64 0, .int .i64 0, .int .i64 0, .int .i64 0, .int .i64 0, .int .i64 0] 39 from by rw [← hV]; exact bO2)
  have bC3 := hid (show Blk Wn3 (w7.heap.size + 1) [.string ce.s, .slice p1 n1 c1, .slice p2 n2 c2, .slice p3 n3 c3] 72 from by rw [← hV]; exact bC2)
  have E93 := hid (show Ext w7 Wn3 from by rw [← hV]; exact E92)
  clear hV bO bC E9 bO2 bC2 E92
  have bO := bO3
  have bC := bC3
  have E9 := E93
  clear bO3 bC3 E93
  have x0 := (E9.out.cells _ _ ((b0.out.ext E7).lt)).trans (((b0.out.ext E7).cells) 0)
  have l0 := Nat.lt_of_lt_of_le ((b0.out.ext E7).lt) E9.out.le
  simp only [List.getElem?_cons_zero] at x0
  have y2 := (E9.out.cells _ _ hbH.out).trans ((E7.cells _ _ hbk1.out).trans y1.out)
  have hb2 := Nat.lt_of_lt_of_le hbH.out E9.out.le
  have v0 := (E9.out.cells _ _ hbqH.out).trans vH0.out
  have v1 := (E9.out.cells _ _ hbqH.out).trans vH1.out
  rw [Nat.add_zero] at v0
  have hbq := Nat.lt_of_lt_of_le hbqH.out E9.out.le
  have z1 := (E9.out.cells _ _ hbH.out).trans wH1.out
  have z2 := (E9.out.cells _ _ hbH.out).trans wH2.out
  have gO : ∀ j, Wn3.cell? ⟨w7.heap.size, j, none⟩ = [.int .i64 4, .int .i64 (kc : Int), .int .i64 V2, .string ⟨#[]⟩, .int .i64 0, .int .i64 0, .int .i64 0, .int .i64 0, .int .i64 0, .int .i64 0, .int .i64 0, .int .i64 0, .string ⟨#[]⟩, .int .i64 0, .int .i64 0, .int .i64 0, .int .i64 0, .int .i64 0, .int .i64 0, .int .i64 0, .int .i64 0][j]? := bO.out.cells
  have fO := bO.out.free
  have lO := bO.out.lt
  have gC : ∀ j, Wn3.cell? ⟨w7.heap.size + 1, j, none⟩ = [.string ce.s, .slice p1 n1 c1, .slice p2 n2 c2, .slice p3 n3 c3][j]? := bC.out.cells
  have fC := bC.out.free
  have lC := bC.out.lt
  clear gO fO lO gC fC lC x0 l0 y2 hb2 hbq v0 v1 z1 z2
  have bE := hid (show Blk Wn3 w7.heap.size (encEd ⟨4, (kc : Int), V2, emp, zS, zL, zI⟩) 39 from bO.out)
  have rE := hid (range_blk bE.out)
  have hmk : Hid (mkE l 8 [a1, a2] [(kc : Int), V2] = ⟨4, (kc : Int), V2, emp, zS, zL, zI⟩) := by show _ = _; rfl
  have hcI : Hid (Calls Tryz.prog 33 #[.agg (encEd ⟨4, (kc : Int), V2, emp, zS, zL, zI⟩).toArray] Wn3 fun e w' => e = .returned (.bool (edP ⟨4, (kc : Int), V2, emp, zS, zL, zI⟩)) ∧ Ext Wn3 w') := hid (pEdit_any _ _ _ _ _ _ _ _ (by show (0 : Nat) ≤ 9223372036854775807; exact Nat.zero_le _) (by show (0 : Nat) ≤ 9223372036854775807; exact Nat.zero_le _))
  rw [← hvs.out] at hmk
  cases hP : edP ⟨4, (kc : Int), V2, emp, zS, zL, zI⟩ with
  | true =>
    have hr := hid (edV_ok (l := l) hj hrw (by rw [hmk.out]; exact hP))
    rw [hmk.out] at hr
    rw [hP] at hcI
    clear hP
    go_wp2_with (first | (refine wpList_build rfl 39 #[] rfl [] rfl (encEd zE).toArray built_zE ?_) | ((with_reducible refine at_dst 193 ?_); refine wpList_load_mid rfl 39 (Operand.tmp 10) rfl (w7.heap.size) 0 rfl (encEd ⟨4, (kc : Int), V2, emp, zS, zL, zI⟩) _ rE.out Tryz.underlying39 rfl (sz_Ed2 _) ?_) | (go_at_call 33; refine hcI.out.mono ?_; rintro e w8 ⟨rfl, E8⟩; have rE8 := hid (range_blk (bE.out.ext E8)); have r1 := hid (there_blk ((b1.out.ext E7).ext (E9.out.trans E8)))) | ((with_reducible refine at_dst 197 ?_); refine wpList_load_mid rfl 39 (Operand.tmp 10) rfl (w7.heap.size) 0 rfl (encEd ⟨4, (kc : Int), V2, emp, zS, zL, zI⟩) _ rE8.out Tryz.underlying39 rfl (sz_Ed2 _) ?_) | ((with_reducible refine at_store ?_); refine wpList_store_mid rfl 39 (Operand.tmp 4) _ rfl (w.heap.size + 1) 0 (encEd ⟨4, (kc : Int), V2, emp, zS, zL, zI⟩).toArray rfl rfl r1.out (sz_Ed _) (one_Edit _) ?_))
    generalize hV9 : World.setCells _ _ _ _ = W9
    have kB : Blk W9 (w.heap.size + 1) (encEd ⟨4, (kc : Int), V2, emp, zS, zL, zI⟩) 39 := by rw [← hV9]; exact ((b1.out.ext E7).ext (E9.out.trans E8)).setAll (vs := encEd ⟨4, (kc : Int), V2, emp, zS, zL, zI⟩) rfl
    have hE2 : Ext w W9 := by rw [← hV9]; exact ext_setCells (by omega) _ _ _ (E0.trans (E7.trans (E9.out.trans E8)))
    clear hV9
    exact bodyPost_ret (v := .tuple #[.agg (encEd ⟨4, (kc : Int), V2, emp, zS, zL, zI⟩).toArray, .int .i64 0]) (results_cell_tmp Tryz.results17 _ _ (w.heap.size + 1) 39 (encEd ⟨4, (kc : Int), V2, emp, zS, zL, zI⟩).toArray (0, 0) _ rfl kB Tryz.underlying39 rfl (sz_Ed _)) rfl ⟨by rw [hr.out], hE2⟩
  | false =>
    have hr := hid (edV_inv (l := l) hj hrw (by rw [hmk.out]; exact hP))
    rw [hP] at hcI
    clear hP
    go_wp2_with (first | (refine wpList_build rfl 39 #[] rfl [] rfl (encEd zE).toArray built_zE ?_) | ((with_reducible refine at_dst 193 ?_); refine wpList_load_mid rfl 39 (Operand.tmp 10) rfl (w7.heap.size) 0 rfl (encEd ⟨4, (kc : Int), V2, emp, zS, zL, zI⟩) _ rE.out Tryz.underlying39 rfl (sz_Ed2 _) ?_) | (go_at_call 33; refine hcI.out.mono ?_; rintro e w8 ⟨rfl, E8⟩; have r1 := hid (there_blk ((b1.out.ext E7).ext (E9.out.trans E8)))) | ((with_reducible refine at_store ?_); refine wpList_store_mid rfl 39 (Operand.tmp 4) _ rfl (w.heap.size + 1) 0 (encEd zE).toArray rfl rfl r1.out (sz_Ed _) (one_Edit _) ?_))
    generalize hV9 : World.setCells _ _ _ _ = W9
    have kB : Blk W9 (w.heap.size + 1) (encEd zE) 39 := by rw [← hV9]; exact ((b1.out.ext E7).ext (E9.out.trans E8)).setAll (vs := encEd zE) rfl
    have hE2 : Ext w W9 := by rw [← hV9]; exact ext_setCells (by omega) _ _ _ (E0.trans (E7.trans (E9.out.trans E8)))
    clear hV9
    exact bodyPost_ret (v := .tuple #[.agg (encEd zE).toArray, .int .i64 1]) (results_cell_tmp Tryz.results17 _ _ (w.heap.size + 1) 39 (encEd zE).toArray (0, 0) _ rfl kB Tryz.underlying39 rfl (sz_Ed _)) rfl ⟨by rw [hr.out], hE2⟩

set_option maxRecDepth 100000 in
set_option maxHeartbeats 4000000 in
theorem pEditOf_good9 (s : ByteArray) (ws : List ByteArray) (l : List CeD) (p q : Option Addr) (n c m d base base2 : Nat) (w : World) (hV : Vrs w) (h : SlD CeR 4 base w p n l) (hn : n ≤ 1048576) (hS : SlD (Fl encW) 1 base2 w q (m + 1) (s :: ws)) (hm : m ≤ 1048576) (hd : m + 1 ≤ d) (hws : ∀ y ∈ s :: ws, y.size ≤ 1048576) (hj : kwX s = some 9) (hrw : rwV l (kdJ 9) ws = 0) :
    Calls Tryz.prog 17 #[.agg #[.slice p n c], .slice q (m + 1) d] w fun e w' => e = .returned (.tuple #[.agg (encEd (edV l (s :: ws)).1).toArray, .int .i64 (edV l (s :: ws)).2]) ∧ Ext w w' := by
  obtain ⟨hlen, hrf⟩ := rw_ok hrw
  have hlen2 : ws.length = 2 := hlen
  clear hlen
  obtain ⟨a1, ws1, rfl⟩ : ∃ a t, ws = a :: t := by
    cases ws with
    | nil => simp at hlen2
    | cons a t => exact ⟨a, t, rfl⟩
  obtain ⟨a2, ws2, rfl⟩ : ∃ a t, ws1 = a :: t := by
    cases ws1 with
    | nil => simp at hlen2
    | cons a t => exact ⟨a, t, rfl⟩
  obtain rfl : ws2 = [] := by
    cases ws2 with
    | nil => rfl
    | cons a t => simp at hlen2
  clear hlen2
  have hmr := hid (show m = 2 by have := hS.length; simp at this; omega)
  obtain ⟨kc, ce, hkc, hce⟩ := cell_at (rwF_head hrf).1
  have hV1 := hid hkc.symm
  clear hkc
  replace hce := hid hce
  obtain ⟨V2, hV2⟩ : ∃ V, Hid (V = wN l 3 a2) := ⟨_, hid rfl⟩
  have hvs : Hid (vsV l (kdJ 9) [a1, a2] = [(kc : Int), V2]) := by
    show _ = _
    rw [hV1.out, hV2.out]
    rfl
  clear hrf
  have hl := hid h.length
  obtain ⟨b, off, y, hq, hbk, hx, y0⟩ := get_w hS (show 0 < m + 1 by omega)
  subst hq
  obtain rfl : s = y := by have := hx.out; simpa using this
  rw [Nat.add_zero] at y0
  clear hx
  have hm0 : (0 : Int) < ((m + 1 : Nat) : Int) := by omega
  have hm1 : ¬ (((m + 1 : Nat) : Int) = 0) := by omega
  have hm2 : (1 : Int) ≤ (m : Int) + 1 := by omega
  have hm3 : (1 : Int) ≤ ((m + 1 : Nat) : Int) := by omega
  go_enter Tryz.func17, Tryz.ntmps17
  go_upto_region 1 with (fail)
  generalize hW : World.alloc (World.alloc _ _) _ = W0
  obtain ⟨E0, z0, b0, b1⟩ := boxes2 hW
  clear hW z0
  replace b0 := hid (show Blk W0 (w.heap.size) [_] _ from b0)
  replace b1 := hid (show Blk W0 (w.heap.size + 1) (encEd zE) _ from b1)
  have g0 := b0.out.cells
  have l0 := b0.out.lt
  have E := Ext.refl W0
  have y1 := hid ((E0.cells _ _ hbk).trans y0)
  have hbk1 := hid (Nat.lt_of_lt_of_le hbk E0.le)
  have y2 := y1.out
  have hb2 := hbk1.out
  go_upto_region 6 with (go_at_call 31; refine (pKinds_9 s _ hj).mono ?_; rintro e w2 ⟨rfl, rfl⟩)
  have x0 := g0 0
  simp only [List.getElem?_cons_zero] at x0
  go_region_held3 (fun V => V.cell? ⟨w.heap.size, 0, none⟩ = some (.slice p n c)) (first | exact x0 | exact (E7.cells _ _ l0).trans x0) (first | ((go_at_call 32); refine (pReadW (kpJ 9) (kdJ 9) [a1, a2] l p _ n c m _ base base2 _ ((hV.ext E0).ext (Ext.refl _).drew) (h.ext CeR.ok (E0.trans (Ext.refl _).drew)) hn (tail_w (hS.ext okStr (E0.trans (Ext.refl _).drew)) hd) hm (fun y hy => hws y (List.mem_cons_of_mem _ hy)) kpJ_size9 (by decide) kpB9 kpT9).mono ?_; rw [hrw, hvs.out]; rintro e w7 ⟨q3, n3, d3, rfl, hv, E7⟩; replace hv := hid hv; generalize (ite (d = 1) _ _) = q9))
  replace E7 := (Ext.refl _).drew.trans E7
  clear g0 l0 y2 hb2 x0
  have g0 := (b0.out.ext E7).cells
  have l0 := (b0.out.ext E7).lt
  have y2 := (E7.cells _ _ hbk1.out).trans y1.out
  have hb2 := Nat.lt_of_lt_of_le hbk1.out E7.le
  obtain ⟨hn3, hv9⟩ := hv.out (by first | trivial | rfl)
  clear hv
  obtain rfl : n3 = 2 := hn3
  have hv : SlD (Fl enc1) 1 _ w7 q3 2 [(kc : Int), V2] := hv9
  obtain ⟨bq, oq, hq3, hbq⟩ := slice_at hv (by omega)
  subst hq3
  have vH0 := hid (get_i hv (k := 0) rfl)
  have vH1 := hid (get_i hv (k := 1) rfl)
  have wH1 := hid ((E7.cells _ _ hbk1.out).trans ((E0.cells _ _ hbk).trans (get_s hS (k := 1) rfl)))
  have wH2 := hid ((E7.cells _ _ hbk1.out).trans ((E0.cells _ _ hbk).trans (get_s hS (k := 2) rfl)))
  have hbqH := hid hbq
  have hbH := hid hb2
  clear hv hbq
  have t8 := hid (there_blk (((Blk.new w7 (encEd zE) 39).alloc (.cells zC.toArray 72))))
  go_upto_region 10 with (first | (refine wpList_build rfl 39 #[] rfl [] rfl (encEd zE).toArray built_zE ?_) | (refine wpList_build rfl 72 #[] rfl [] rfl zC.toArray built_zC ?_) | (((with_reducible refine at_store ?_); refine wpList_store_mid rfl 39 (Operand.tmp 10) _ rfl (w7.heap.size) 0 (encEd zE).toArray rfl rfl t8.out (sz_Ed _) (one_Edit _) ?_); generalize hV8 : World.setCells _ _ _ _ = W8; obtain ⟨bo8, bc8, E8⟩ := two_new hV8; clear hV8; have t9 := hid (there_blk bc8)) | ((with_reducible refine at_store ?_); refine wpList_store_mid rfl 72 (Operand.tmp 11) _ rfl (w7.heap.size + 1) 0 zC.toArray rfl rfl t9.out sz_Ce one_zC ?_))
  generalize hV9 : World.setCells _ _ _ _ = W9
  have bO := hid (show Blk W9 w7.heap.size (encEd zE) 39 by rw [← hV9]; exact bo8.mut (Mut.setCells (S := [w7.heap.size + 1]) (by simp) _ _ _ (Mut.refl _ _)) (by simp))
  have bC := hid (show Blk W9 (w7.heap.size + 1) zC 72 by rw [← hV9]; exact bc8.setAll rfl)
  have E9 := hid (show Ext w7 W9 by rw [← hV9]; exact ext_setCells (Nat.le_succ _) _ _ _ E8)
  clear hV9 bo8 bc8 E8 t8 t9 g0 l0 y2 hb2
  have hbt := get_bt (kpJ 9)
  have hk0 : (0 : Int) < (kpJ 9).size := by rw [kpJ_size9]; decide
  have hk1 : 0 < (kpJ 9).size := by rw [kpJ_size9]; decide
  have hkb : bt (kpJ 9) 0 = 99 := (kpB9 0 0 rfl).2
  have hs := kw_9 hj
  have x0 := (E9.out.cells _ _ ((b0.out.ext E7).lt)).trans (((b0.out.ext E7).cells) 0)
  have l0 := Nat.lt_of_lt_of_le ((b0.out.ext E7).lt) E9.out.le
  simp only [List.getElem?_cons_zero] at x0
  have y2 := (E9.out.cells _ _ hbH.out).trans ((E7.cells _ _ hbk1.out).trans y1.out)
  have hb2 := Nat.lt_of_lt_of_le hbH.out E9.out.le
  have v0 := (E9.out.cells _ _ hbqH.out).trans vH0.out
  have v1 := (E9.out.cells _ _ hbqH.out).trans vH1.out
  rw [Nat.add_zero] at v0
  have hbq := Nat.lt_of_lt_of_le hbqH.out E9.out.le
  have z1 := (E9.out.cells _ _ hbH.out).trans wH1.out
  have z2 := (E9.out.cells _ _ hbH.out).trans wH2.out
  have hi1 : (1 : Int) < (m : Int) + 1 := by have := hmr.out; omega
  have hi2 : (2 : Int) < (m : Int) + 1 := by have := hmr.out; omega
  have ne1 : b ≠ w7.heap.size := by have := hbH.out; omega
  have ne2 : bq ≠ w7.heap.size := by have := hbqH.out; omega
  have ne3 : w.heap.size ≠ w7.heap.size := by have := (b0.out.ext E7).lt; omega
  have ne4 : w7.heap.size + 1 ≠ w7.heap.size := by omega
  have bO2 := hid (show Blk W9 w7.heap.size [.int .i64 0, .int .i64 0, .int .i64 0, .string ⟨#[]⟩, .int .i64 0, .int .i64 0, .int .i64 0, .int .i64 0, .int .i64 0, .int .i64 0, .int .i64 0, .int .i64 0, .string ⟨#[]⟩, .int .i64 0, .int .i64 0, .int .i64 0, .int .i64 0, .int .i64 0, .int .i64 0, .int .i64 0, .int .i64 0] 39 from bO.out)
  have bC2 := hid (show Blk W9 (w7.heap.size + 1) [.string ⟨#[]⟩, .slice none 0 0, .slice none 0 0, .slice none 0 0] 72 from bC.out)
  clear bO bC
  have bO := bO2
  have bC := bC2
  clear bO2 bC2
  have gO : ∀ j, W9.cell? ⟨w7.heap.size, j, none⟩ = [.int .i64 0, .int .i64 0, .int .i64 0, .string ⟨#[]⟩, .int .i64 0, .int .i64 0, .int .i64 0, .int .i64 0, .int .i64 0, .int .i64 0, .int .i64 0, .int .i64 0, .string ⟨#[]⟩, .int .i64 0, .int .i64 0, .int .i64 0, .int .i64 0, .int .i64 0, .int .i64 0, .int .i64 0, .int .i64 0][j]? := bO.out.cells
  have fO := bO.out.free
  have lO := bO.out.lt
  have gC : ∀ j, W9.cell? ⟨w7.heap.size + 1, j, none⟩ = [.string ⟨#[]⟩, .slice none 0 0, .slice none 0 0, .slice none 0 0][j]? := bC.out.cells
  have fC := bC.out.free
  have lC := bC.out.lt
  go_upto_region 12 with (fail)
  clear gO fO lO gC fC lC x0 l0 y2 hb2 hbq v0 v1 z1 z2
  have bO2 := (bO.out.set 1 (.int .i64 (kc : Int)))
  simp only [List.set_cons_zero, List.set_cons_succ] at bO2
  have bC2 := (bC.out.other (B := w7.heap.size) 1 (.int .i64 (kc : Int)) (by omega))
  have E92 := (E9.out.setCell (p := ⟨w7.heap.size, 1, none⟩) (Nat.le_refl _) (.int .i64 (kc : Int)))
  generalize hV : World.setCell _ _ _ = Wn1
  have bO3 := hid (show Blk Wn1 w7.heap.size [.int .i64 0, .int .i64 (kc : Int), .int .i64 0, .string ⟨#[]⟩, .int .i64 0, .int .i64 0, .int .i64 0, .int .i64 0, .int .i64 0, .int .i64 0, .int .i64 0, .int .i64 0, .string ⟨#[]⟩, .int .i64 0, .int .i64 0, .int .i64 0, .int .i64 0, .int .i64 0, .int .i64 0, .int .i64 0, .int .i64 0] 39 from by rw [← hV]; exact bO2)
  have bC3 := hid (show Blk Wn1 (w7.heap.size + 1) [.string ⟨#[]⟩, .slice none 0 0, .slice none 0 0, .slice none 0 0] 72 from by rw [← hV]; exact bC2)
  have E93 := hid (show Ext w7 Wn1 from by rw [← hV]; exact E92)
  clear hV bO bC E9 bO2 bC2 E92
  have bO := bO3
  have bC := bC3
  have E9 := E93
  clear bO3 bC3 E93
  have x0 := (E9.out.cells _ _ ((b0.out.ext E7).lt)).trans (((b0.out.ext E7).cells) 0)
  have l0 := Nat.lt_of_lt_of_le ((b0.out.ext E7).lt) E9.out.le
  simp only [List.getElem?_cons_zero] at x0
  have y2 := (E9.out.cells _ _ hbH.out).trans ((E7.cells _ _ hbk1.out).trans y1.out)
  have hb2 := Nat.lt_of_lt_of_le hbH.out E9.out.le
  have v0 := (E9.out.cells _ _ hbqH.out).trans vH0.out
  have v1 := (E9.out.cells _ _ hbqH.out).trans vH1.out
  rw [Nat.add_zero] at v0
  have hbq := Nat.lt_of_lt_of_le hbqH.out E9.out.le
  have z1 := (E9.out.cells _ _ hbH.out).trans wH1.out
  have z2 := (E9.out.cells _ _ hbH.out).trans wH2.out
  have gO : ∀ j, Wn1.cell? ⟨w7.heap.size, j, none⟩ = [.int .i64 0, .int .i64 (kc : Int), .int .i64 0, .string ⟨#[]⟩, .int .i64 0, .int .i64 0, .int .i64 0, .int .i64 0, .int .i64 0, .int .i64 0, .int .i64 0, .int .i64 0, .string ⟨#[]⟩, .int .i64 0, .int .i64 0, .int .i64 0, .int .i64 0, .int .i64 0, .int .i64 0, .int .i64 0, .int .i64 0][j]? := bO.out.cells
  have fO := bO.out.free
  have lO := bO.out.lt
  have gC : ∀ j, Wn1.cell? ⟨w7.heap.size + 1, j, none⟩ = [.string ⟨#[]⟩, .slice none 0 0, .slice none 0 0, .slice none 0 0][j]? := bC.out.cells
  have fC := bC.out.free
  have lC := bC.out.lt
  have hkn : kc < n := by have := (List.getElem?_eq_some_iff.1 hce.out).1; have := hl.out; omega
  have hknI : (kc : Int) < n := by omega
  obtain ⟨bl, ofl, ye, cs, hpl, hbl, hxl, hcs, hcl⟩ := (h.ext CeR.ok (E0.trans (E7.trans E9.out))).get hkn
  subst hpl
  obtain rfl : ce = ye := Option.some.inj (hce.out.symm.trans hxl.out)
  obtain ⟨p1, n1, c1, p2, n2, c2, p3, n3, c3, rfl, s1, s2, s3⟩ := hcs
  have c0 := hcl 0 _ rfl
  rw [Nat.add_zero] at c0
  have c10 := hcl 1 _ rfl
  have c20 := hcl 2 _ rfl
  have c30 := hcl 3 _ rfl
  have ln1 := hid s1.length
  have ln2 := hid s2.length
  have ln3 := hid s3.length
  clear hcl s1 s2 s3
  go_region
  clear c0 c10 c20 c30 hbl
  clear gO fO lO gC fC lC x0 l0 y2 hb2 hbq v0 v1 z1 z2
  have bO2 := Blk.drew ((((bO.out.other (B := w7.heap.size + 1) 0 (.string ce.s) (by omega)).other (B := w7.heap.size + 1) 1 (.slice p1 n1 c1) (by omega)).other (B := w7.heap.size + 1) 2 (.slice p2 n2 c2) (by omega)).other (B := w7.heap.size + 1) 3 (.slice p3 n3 c3) (by omega))
  have bC2 := Blk.drew ((((bC.out.set 0 (.string ce.s)).set 1 (.slice p1 n1 c1)).set 2 (.slice p2 n2 c2)).set 3 (.slice p3 n3 c3))
  simp only [List.set_cons_zero, List.set_cons_succ] at bC2
  have E92 := Ext.drew ((((E9.out.setCell (p := ⟨w7.heap.size + 1, 0, none⟩) (Nat.le_succ _) (.string ce.s)).setCell (p := ⟨w7.heap.size + 1, 1, none⟩) (Nat.le_succ _) (.slice p1 n1 c1)).setCell (p := ⟨w7.heap.size + 1, 2, none⟩) (Nat.le_succ _) (.slice p2 n2 c2)).setCell (p := ⟨w7.heap.size + 1, 3, none⟩) (Nat.le_succ _) (.slice p3 n3 c3))
  generalize hV : World.drew _ = Wn2
  have bO3 := hid (show Blk Wn2 w7.heap.size [.int .i64 0, .int .i64 (kc : Int), .int .i64 0, .string ⟨#[]⟩, .int .i64 0, .int .i64 0, .int .i64 0, .int .i64 0, .int .i64 0, .int .i64 0, .int .i64 0, .int .i64 0, .string ⟨#[]⟩, .int .i64 0, .int .i64 0, .int .i64 0, .int .i64 0, .int .i64 0, .int .i64 0, .int .i64 0, .int .i64 0] 39 from by rw [← hV]; exact bO2)
  have bC3 := hid (show Blk Wn2 (w7.heap.size + 1) [.string ce.s, .slice p1 n1 c1, .slice p2 n2 c2, .slice p3 n3 c3] 72 from by rw [← hV]; exact bC2)
  have E93 := hid (show Ext w7 Wn2 from by rw [← hV]; exact E92)
  clear hV bO bC E9 bO2 bC2 E92
  have bO := bO3
  have bC := bC3
  have E9 := E93
  clear bO3 bC3 E93
  have x0 := (E9.out.cells _ _ ((b0.out.ext E7).lt)).trans (((b0.out.ext E7).cells) 0)
  have l0 := Nat.lt_of_lt_of_le ((b0.out.ext E7).lt) E9.out.le
  simp only [List.getElem?_cons_zero] at x0
  have y2 := (E9.out.cells _ _ hbH.out).trans ((E7.cells _ _ hbk1.out).trans y1.out)
  have hb2 := Nat.lt_of_lt_of_le hbH.out E9.out.le
  have v0 := (E9.out.cells _ _ hbqH.out).trans vH0.out
  have v1 := (E9.out.cells _ _ hbqH.out).trans vH1.out
  rw [Nat.add_zero] at v0
  have hbq := Nat.lt_of_lt_of_le hbqH.out E9.out.le
  have z1 := (E9.out.cells _ _ hbH.out).trans wH1.out
  have z2 := (E9.out.cells _ _ hbH.out).trans wH2.out
  have gO : ∀ j, Wn2.cell? ⟨w7.heap.size, j, none⟩ = [.int .i64 0, .int .i64 (kc : Int), .int .i64 0, .string ⟨#[]⟩, .int .i64 0, .int .i64 0, .int .i64 0, .int .i64 0, .int .i64 0, .int .i64 0, .int .i64 0, .int .i64 0, .string ⟨#[]⟩, .int .i64 0, .int .i64 0, .int .i64 0, .int .i64 0, .int .i64 0, .int .i64 0, .int .i64 0, .int .i64 0][j]? := bO.out.cells
  have fO := bO.out.free
  have lO := bO.out.lt
  have gC : ∀ j, Wn2.cell? ⟨w7.heap.size + 1, j, none⟩ = [.string ce.s, .slice p1 n1 c1, .slice p2 n2 c2, .slice p3 n3 c3][j]? := bC.out.cells
  have fC := bC.out.free
  have lC := bC.out.lt
  go_upto_region 37 with (fail)
  go_region
  clear gO fO lO gC fC lC x0 l0 y2 hb2 hbq v0 v1 z1 z2
  have bO2 := Blk.drew ((bO.out.set 0 (.int .i64 6)).set 2 (.int .i64 V2))
  simp only [List.set_cons_zero, List.set_cons_succ] at bO2
  have bC2 := Blk.drew ((bC.out.other (B := w7.heap.size) 0 (.int .i64 6) (by omega)).other (B := w7.heap.size) 2 (.int .i64 V2) (by omega))
  have E92 := Ext.drew ((E9.out.setCell (p := ⟨w7.heap.size, 0, none⟩) (Nat.le_refl _) (.int .i64 6)).setCell (p := ⟨w7.heap.size, 2, none⟩) (Nat.le_refl _) (.int .i64 V2))
  generalize hV : World.drew _ = Wn3
  have bO3 := hid (show Blk Wn3 w7.heap.size [.int .i64 6, .int .i64 (kc : Int), .int .i64 V2, .string ⟨#[]⟩, .int .i64 0, .int .i64 0, .int .i64 0, .int .i64 0, .int .i64 0, .int .i64 0, .int .i64 0, .int .i64 0, .string ⟨#[]⟩, .int .i64 0, .int .i64 0, .int .i64 0, .int .i64 0, .int .i64 0, .int .i64 0, .int .i64 0, .int .i64 0] 39 from by rw [← hV]; exact bO2)
  have bC3 := hid (show Blk Wn3 (w7.heap.size + 1) [.string ce.s, .slice p1 n1 c1, .slice p2 n2 c2, .slice p3 n3 c3] 72 from by rw [← hV]; exact bC2)
  have E93 := hid (show Ext w7 Wn3 from by rw [← hV]; exact E92)
  clear hV bO bC E9 bO2 bC2 E92
  have bO := bO3
  have bC := bC3
  have E9 := E93
  clear bO3 bC3 E93
  have x0 := (E9.out.cells _ _ ((b0.out.ext E7).lt)).trans (((b0.out.ext E7).cells) 0)
  have l0 := Nat.lt_of_lt_of_le ((b0.out.ext E7).lt) E9.out.le
  simp only [List.getElem?_cons_zero] at x0
  have y2 := (E9.out.cells _ _ hbH.out).trans ((E7.cells _ _ hbk1.out).trans y1.out)
  have hb2 := Nat.lt_of_lt_of_le hbH.out E9.out.le
  have v0 := (E9.out.cells _ _ hbqH.out).trans vH0.out
  have v1 := (E9.out.cells _ _ hbqH.out).trans vH1.out
  rw [Nat.add_zero] at v0
  have hbq := Nat.lt_of_lt_of_le hbqH.out E9.out.le
  have z1 := (E9.out.cells _ _ hbH.out).trans wH1.out
  have z2 := (E9.out.cells _ _ hbH.out).trans wH2.out
  have gO : ∀ j, Wn3.cell? ⟨w7.heap.size, j, none⟩ = [.int .i64 6, .int .i64 (kc : Int), .int .i64 V2, .string ⟨#[]⟩, .int .i64 0, .int .i64 0, .int .i64 0, .int .i64 0, .int .i64 0, .int .i64 0, .int .i64 0, .int .i64 0, .string ⟨#[]⟩, .int .i64 0, .int .i64 0, .int .i64 0, .int .i64 0, .int .i64 0, .int .i64 0, .int .i64 0, .int .i64 0][j]? := bO.out.cells
  have fO := bO.out.free
  have lO := bO.out.lt
  have gC : ∀ j, Wn3.cell? ⟨w7.heap.size + 1, j, none⟩ = [.string ce.s, .slice p1 n1 c1, .slice p2 n2 c2, .slice p3 n3 c3][j]? := bC.out.cells
  have fC := bC.out.free
  have lC := bC.out.lt
  clear gO fO lO gC fC lC x0 l0 y2 hb2 hbq v0 v1 z1 z2
  have bE := hid (show Blk Wn3 w7.heap.size (encEd ⟨6, (kc : Int), V2, emp, zS, zL, zI⟩) 39 from bO.out)
  have rE := hid (range_blk bE.out)
  have hmk : Hid (mkE l 9 [a1, a2] [(kc : Int), V2] = ⟨6, (kc : Int), V2, emp, zS, zL, zI⟩) := by show _ = _; rfl
  have hcI : Hid (Calls Tryz.prog 33 #[.agg (encEd ⟨6, (kc : Int), V2, emp, zS, zL, zI⟩).toArray] Wn3 fun e w' => e = .returned (.bool (edP ⟨6, (kc : Int), V2, emp, zS, zL, zI⟩)) ∧ Ext Wn3 w') := hid (pEdit_any _ _ _ _ _ _ _ _ (by show (0 : Nat) ≤ 9223372036854775807; exact Nat.zero_le _) (by show (0 : Nat) ≤ 9223372036854775807; exact Nat.zero_le _))
  rw [← hvs.out] at hmk
  cases hP : edP ⟨6, (kc : Int), V2, emp, zS, zL, zI⟩ with
  | true =>
    have hr := hid (edV_ok (l := l) hj hrw (by rw [hmk.out]; exact hP))
    rw [hmk.out] at hr
    rw [hP] at hcI
    clear hP
    go_wp2_with (first | (refine wpList_build rfl 39 #[] rfl [] rfl (encEd zE).toArray built_zE ?_) | ((with_reducible refine at_dst 193 ?_); refine wpList_load_mid rfl 39 (Operand.tmp 10) rfl (w7.heap.size) 0 rfl (encEd ⟨6, (kc : Int), V2, emp, zS, zL, zI⟩) _ rE.out Tryz.underlying39 rfl (sz_Ed2 _) ?_) | (go_at_call 33; refine hcI.out.mono ?_; rintro e w8 ⟨rfl, E8⟩; have rE8 := hid (range_blk (bE.out.ext E8)); have r1 := hid (there_blk ((b1.out.ext E7).ext (E9.out.trans E8)))) | ((with_reducible refine at_dst 197 ?_); refine wpList_load_mid rfl 39 (Operand.tmp 10) rfl (w7.heap.size) 0 rfl (encEd ⟨6, (kc : Int), V2, emp, zS, zL, zI⟩) _ rE8.out Tryz.underlying39 rfl (sz_Ed2 _) ?_) | ((with_reducible refine at_store ?_); refine wpList_store_mid rfl 39 (Operand.tmp 4) _ rfl (w.heap.size + 1) 0 (encEd ⟨6, (kc : Int), V2, emp, zS, zL, zI⟩).toArray rfl rfl r1.out (sz_Ed _) (one_Edit _) ?_))
    generalize hV9 : World.setCells _ _ _ _ = W9
    have kB : Blk W9 (w.heap.size + 1) (encEd ⟨6, (kc : Int), V2, emp, zS, zL, zI⟩) 39 := by rw [← hV9]; exact ((b1.out.ext E7).ext (E9.out.trans E8)).setAll (vs := encEd ⟨6, (kc : Int), V2, emp, zS, zL, zI⟩) rfl
    have hE2 : Ext w W9 := by rw [← hV9]; exact ext_setCells (by omega) _ _ _ (E0.trans (E7.trans (E9.out.trans E8)))
    clear hV9
    exact bodyPost_ret (v := .tuple #[.agg (encEd ⟨6, (kc : Int), V2, emp, zS, zL, zI⟩).toArray, .int .i64 0]) (results_cell_tmp Tryz.results17 _ _ (w.heap.size + 1) 39 (encEd ⟨6, (kc : Int), V2, emp, zS, zL, zI⟩).toArray (0, 0) _ rfl kB Tryz.underlying39 rfl (sz_Ed _)) rfl ⟨by rw [hr.out], hE2⟩
  | false =>
    have hr := hid (edV_inv (l := l) hj hrw (by rw [hmk.out]; exact hP))
    rw [hP] at hcI
    clear hP
    go_wp2_with (first | (refine wpList_build rfl 39 #[] rfl [] rfl (encEd zE).toArray built_zE ?_) | ((with_reducible refine at_dst 193 ?_); refine wpList_load_mid rfl 39 (Operand.tmp 10) rfl (w7.heap.size) 0 rfl (encEd ⟨6, (kc : Int), V2, emp, zS, zL, zI⟩) _ rE.out Tryz.underlying39 rfl (sz_Ed2 _) ?_) | (go_at_call 33; refine hcI.out.mono ?_; rintro e w8 ⟨rfl, E8⟩; have r1 := hid (there_blk ((b1.out.ext E7).ext (E9.out.trans E8)))) | ((with_reducible refine at_store ?_); refine wpList_store_mid rfl 39 (Operand.tmp 4) _ rfl (w.heap.size + 1) 0 (encEd zE).toArray rfl rfl r1.out (sz_Ed _) (one_Edit _) ?_))
    generalize hV9 : World.setCells _ _ _ _ = W9
    have kB : Blk W9 (w.heap.size + 1) (encEd zE) 39 := by rw [← hV9]; exact ((b1.out.ext E7).ext (E9.out.trans E8)).setAll (vs := encEd zE) rfl
    have hE2 : Ext w W9 := by rw [← hV9]; exact ext_setCells (by omega) _ _ _ (E0.trans (E7.trans (E9.out.trans E8)))
    clear hV9
    exact bodyPost_ret (v := .tuple #[.agg (encEd zE).toArray, .int .i64 1]) (results_cell_tmp Tryz.results17 _ _ (w.heap.size + 1) 39 (encEd zE).toArray (0, 0) _ rfl kB Tryz.underlying39 rfl (sz_Ed _)) rfl ⟨by rw [hr.out], hE2⟩

end Go.Proofs.YtncmhefendhinaaGreatDoor
