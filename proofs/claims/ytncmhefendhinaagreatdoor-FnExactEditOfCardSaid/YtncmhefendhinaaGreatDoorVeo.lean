/- The edit that words describe, of the program. Condition: lengths that fit; the tables as they are laid; a valid library. -/
import Derived.Test.YtncmhefendhinaaGreatDoorVkd
import Derived.BigRegion
import Derived.Deep.RegionHeld3
import Derived.StillTailTactics
namespace Go.Proofs.YtncmhefendhinaaGreatDoor
open Go.RowKit Go.PlainAid
set_option linter.unusedVariables false
set_option linter.unusedSimpArgs false

theorem results_cell_tmp {P : Program} {fn : Func} {p q : Tmp} {ty : TypeId} (h : fn.results = #[.cell p ty, .tmp q]) (tmps : Array Value) (w : World) (g : Nat) (t : TypeId) (cs : Array Value) (fr : Nat × Nat) (d : TypeDesc)
    (hp : tmps.getD p undef = .pointer (some ⟨g, 0, none⟩)) (hg : w.heap[g]? = some (.cells cs t fr))
    (hu : P.underlying ty = some d) (hd : (match d with | .struct _ | .array _ _ => true | _ => false) = true) (hi : (P.info? ty).map (·.size) = some cs.size) :
    (results fn tmps).run P w = .ok (.tuple #[.agg cs, tmps.getD q undef]) w := by
  have hp' : tmps[p]?.getD undef = .pointer (some ⟨g, 0, none⟩) := by simpa using hp
  simp [results, h, hp', asAddr, run_loadVar_row w g t ty cs fr d hg hu hd hi]
theorem tail_w {base m d b off : Nat} {w : World} {y : ByteArray} {ws : List ByteArray} (h : SlD (Fl encW) 1 base w (some ⟨b, off, none⟩) (m + 1) (y :: ws)) (hd : m + 1 ≤ d) : SlD (Fl encW) 1 base w (if d = 1 then some ⟨b, off, none⟩ else some ⟨b, off + 1, none⟩) m ws := by
  refine ⟨by have := h.1; rw [List.length_cons] at this; omega, ?_⟩
  rcases Nat.eq_zero_or_pos m with rfl | hm
  · exact Or.inl rfl
  · rcases h.2 with h0 | ⟨b', off', hp, h0, hb, hc⟩
    · omega
    · cases hp
      refine Or.inr ⟨b, off + 1, by rw [if_neg (by omega)], h0, hb, fun k x hx => ?_⟩
      obtain ⟨cs, h1, h2⟩ := hc (k + 1) x hx
      refine ⟨cs, h1, fun j v hv => ?_⟩
      have := h2 j v hv
      rw [show off + (k + 1) * 1 + j = off + 1 + k * 1 + j by omega] at this
      exact this
theorem built_zE : Tryz.prog.built 39 [] = some (encEd zE).toArray := by kernel_rfl
def zC : List Value := [.string ⟨#[]⟩, .slice none 0 0, .slice none 0 0, .slice none 0 0]
theorem built_zC : Tryz.prog.built 72 [] = some zC.toArray := by kernel_rfl
theorem sz_Ce : (Tryz.prog.info? 72).map (·.size) = some zC.toArray.size := by kernel_rfl
theorem one_zC : zC.toArray.all (·.oneCell') = true := by simp [zC, Value.oneCell']
theorem sz_Ed (x : EdD) : (Tryz.prog.info? 39).map (·.size) = some (encEd x).toArray.size := by rw [show (encEd x).toArray.size = 21 from rfl]; kernel_rfl
theorem sz_Ed2 (x : EdD) : (Tryz.prog.info? 39).map (·.size) = some (encEd x).length := by rw [show (encEd x).length = 21 from rfl]; kernel_rfl

set_option maxRecDepth 100000 in
set_option maxHeartbeats 4000000 in
theorem pEditOf_no (s : ByteArray) (ws : List ByteArray) (l : List CeD) (p q : Option Addr) (n c m d base base2 : Nat) (w : World) (hV : Vrs w) (h : SlD CeR 4 base w p n l) (hn : n ≤ 1048576) (hS : SlD (Fl encW) 1 base2 w q (m + 1) (s :: ws)) (hm : m ≤ 1048576) (hd : m + 1 ≤ d) (hws : ∀ y ∈ s :: ws, y.size ≤ 1048576) (hj : kwX s = none) :
    Calls Tryz.prog 17 #[.agg #[.slice p n c], .slice q (m + 1) d] w fun e w' => e = .returned (.tuple #[.agg (encEd (edV l (s :: ws)).1).toArray, .int .i64 (edV l (s :: ws)).2]) ∧ Ext w w' := by
  have hr := hid (edV_no (l := l) (ws := ws) hj)
  have hl := hid h.length
  obtain ⟨b, off, y, hq, hbk, hx, y0⟩ := get_w hS (show 0 < m + 1 by omega)
  subst hq
  obtain rfl : s = y := by have := hx.out; simpa using this
  rw [Nat.add_zero] at y0
  clear hx
  have hm0 : (0 : Int) < ((m + 1 : Nat) : Int) := by omega
  have hm1 : ¬ (((m + 1 : Nat) : Int) = 0) := by omega
  have hm2 : (1 : Int) ≤ (m : Int) + 1 := by omega
  have hm3 : (1 : Int) ≤ ((m + 1 : Nat) : Int) := by omega
  go_enter Tryz.func17, Tryz.ntmps17
  go_upto_region 1 with (fail)
  generalize hW : World.alloc (World.alloc _ _) _ = W0
  obtain ⟨E0, z0, b0, b1⟩ := boxes2 hW
  clear hW z0
  replace b0 := hid (show Blk W0 (w.heap.size) [_] _ from b0)
  replace b1 := hid (show Blk W0 (w.heap.size + 1) (encEd zE) _ from b1)
  have g0 := b0.out.cells
  have l0 := b0.out.lt
  have E := Ext.refl W0
  have y1 := hid ((E0.cells _ _ hbk).trans y0)
  have hbk1 := hid (Nat.lt_of_lt_of_le hbk E0.le)
  have y2 := y1.out
  have hb2 := hbk1.out
  have r1 := hid (there_blk b1.out)
  go_wp2_with (first | (go_at_call 31; refine (pKinds_no s _ hj).mono ?_; rintro e w2 ⟨rfl, rfl⟩) | (refine wpList_build rfl 39 #[] rfl [] rfl (encEd zE).toArray built_zE ?_) | ((with_reducible refine at_store ?_); refine wpList_store_mid rfl 39 (Operand.tmp 4) _ rfl (w.heap.size + 1) 0 (encEd zE).toArray rfl rfl r1.out (sz_Ed _) (one_Edit _) ?_))
  generalize hV9 : World.setCells _ _ _ _ = W9
  have kB : Blk W9 (w.heap.size + 1) (encEd zE) 39 := by rw [← hV9]; exact b1.out.setAll (vs := encEd zE) rfl
  have hE2 : Ext w W9 := by rw [← hV9]; exact ext_setCells (by omega) _ _ _ (E0.trans E)
  clear hV9
  exact bodyPost_ret (v := .tuple #[.agg (encEd zE).toArray, .int .i64 4]) (results_cell_tmp Tryz.results17 _ _ (w.heap.size + 1) 39 (encEd zE).toArray (0, 0) _ rfl kB Tryz.underlying39 rfl (sz_Ed _)) rfl ⟨by rw [hr.out], hE2⟩

theorem rwF_head {l : List CeD} {k : Nat} {ks : List Nat} {s : ByteArray} {ws : List ByteArray} (h : rwF l (k :: ks) (s :: ws) = 0) : wC l k s = 0 ∧ rwF l ks ws = 0 := by
  rw [rwF] at h
  split at h
  · rename_i hc; exact ⟨hc, h⟩
  · rename_i hc; exact absurd h hc
theorem rw_ok {l : List CeD} {ks : List Nat} {ws : List ByteArray} (h : rwV l ks ws = 0) : ws.length = ks.length ∧ rwF l ks ws = 0 := by
  unfold rwV at h
  split at h
  · rename_i hl; exact ⟨hl, h⟩
  · cases h
theorem idx_at {α : Type} {p : α → Bool} {l : List α} (h : ¬ (idx p l < 0)) : ∃ (k : Nat) (x : α), idx p l = k ∧ l[k]? = some x := by
  unfold idx at h ⊢
  cases hf : l.findIdx? p with
  | none => rw [hf] at h; simp at h
  | some k =>
    rw [List.findIdx?_eq_some_iff_getElem] at hf
    obtain ⟨hk, _⟩ := hf
    exact ⟨k, l[k], rfl, List.getElem?_eq_getElem hk⟩
theorem cAt_nat {l : List CeD} {k : Nat} {x : CeD} (h : l[k]? = some x) : cAt l (k : Int) = x := by
  unfold cAt
  rw [show ((k : Int)).toNat = k by omega, h]
  rfl
theorem cell_at {l : List CeD} {s : ByteArray} (h : wC l 0 s = 0) : ∃ (k : Nat) (x : CeD), wN l 0 s = k ∧ l[k]? = some x := by
  have h1 : ¬ (idx (eqN s) l < 0) := fun hh => by
    have : wC l 0 s = 5 := if_pos hh
    rw [h] at this
    cases this
  exact idx_at h1
theorem slice_at {α : Type} {enc : α → List Value} {base n : Nat} {w : World} {q : Option Addr} {l : List α} (h : SlD (Fl enc) 1 base w q n l) (hn : 0 < n) : ∃ b off, q = some ⟨b, off, none⟩ ∧ b < w.heap.size := by
  rcases h.2 with h0 | ⟨b, off, hp, _, hb, _⟩
  · omega
  · exact ⟨b, off, hp, hb⟩
theorem get_i {base n b off : Nat} {w : World} {l : List Int} (h : SlD (Fl enc1) 1 base w (some ⟨b, off, none⟩) n l) {k : Nat} {x : Int} (hx : l[k]? = some x) : w.cell? ⟨b, off + k, none⟩ = some (.int .i64 x) := by
  rcases h.2 with h0 | ⟨b', off', hp, _, hb, hc⟩
  · have := h.1
    have := (List.getElem?_eq_some_iff.1 hx).1
    omega
  · cases hp
    obtain ⟨cs, h1, h2⟩ := hc k x hx
    cases h1
    have := h2 0 _ rfl
    rwa [Nat.mul_one, Nat.add_zero] at this
theorem get_s {base n b off : Nat} {w : World} {l : List ByteArray} (h : SlD (Fl encW) 1 base w (some ⟨b, off, none⟩) n l) {k : Nat} {x : ByteArray} (hx : l[k]? = some x) : w.cell? ⟨b, off + k, none⟩ = some (.string x) := by
  rcases h.2 with h0 | ⟨b', off', hp, _, hb, hc⟩
  · have := h.1
    have := (List.getElem?_eq_some_iff.1 hx).1
    omega
  · cases hp
    obtain ⟨cs, h1, h2⟩ := hc k x hx
    cases h1
    have := h2 0 _ rfl
    rwa [Nat.mul_one, Nat.add_zero] at this
theorem two_new {w W8 : World} (h : ((w.alloc (.cells (encEd zE).toArray 39)).alloc (.cells zC.toArray 72)).setCells w.heap.size 0 (encEd zE) = W8) :
    Blk W8 w.heap.size (encEd zE) 39 ∧ Blk W8 (w.heap.size + 1) zC 72 ∧ Ext w W8 := by
  have hE : Ext w ((w.alloc (.cells (encEd zE).toArray 39)).alloc (.cells zC.toArray 72)) := ((Ext.refl w).alloc _).alloc _
  have h1 : Blk ((w.alloc (.cells (encEd zE).toArray 39)).alloc (.cells zC.toArray 72)) w.heap.size (encEd zE) 39 := (Blk.new w (encEd zE) _).alloc _
  have h2 : Blk ((w.alloc (.cells (encEd zE).toArray 39)).alloc (.cells zC.toArray 72)) (w.heap.size + 1) zC 72 := by
    have := Blk.new (w.alloc (.cells (encEd zE).toArray 39)) zC 72
    rwa [World.size_alloc] at this
  subst h
  exact ⟨h1.setAll rfl, h2.mut (Mut.setCells (S := [w.heap.size]) (by simp) _ _ _ (Mut.refl _ _)) (by simp), ext_setCells (Nat.le_refl _) _ _ _ hE⟩

set_option maxRecDepth 100000 in
set_option maxHeartbeats 4000000 in
theorem pEditOf_bad0 (s : ByteArray) (ws : List ByteArray) (l : List CeD) (p q : Option Addr) (n c m d base base2 : Nat) (w : World) (hV : Vrs w) (h : SlD CeR 4 base w p n l) (hn : n ≤ 1048576) (hS : SlD (Fl encW) 1 base2 w q (m + 1) (s :: ws)) (hm : m ≤ 1048576) (hd : m + 1 ≤ d) (hws : ∀ y ∈ s :: ws, y.size ≤ 1048576) (hj : kwX s = some 0) (hrw : rwV l (kdJ 0) ws ≠ 0) :
    Calls Tryz.prog 17 #[.agg #[.slice p n c], .slice q (m + 1) d] w fun e w' => e = .returned (.tuple #[.agg (encEd (edV l (s :: ws)).1).toArray, .int .i64 (edV l (s :: ws)).2]) ∧ Ext w w' := by
  have hr0 := edV_bad hj hrw
  obtain ⟨C, hC9⟩ : ∃ C, Hid (C = rwV l (kdJ 0) ws) := ⟨_, hid rfl⟩
  rw [← hC9.out] at hr0 hrw
  have hr := hid hr0
  clear hr0
  have hCB : (C != 0) = true := by simpa using hrw
  have hl := hid h.length
  obtain ⟨b, off, y, hq, hbk, hx, y0⟩ := get_w hS (show 0 < m + 1 by omega)
  subst hq
  obtain rfl : s = y := by have := hx.out; simpa using this
  rw [Nat.add_zero] at y0
  clear hx
  have hm0 : (0 : Int) < ((m + 1 : Nat) : Int) := by omega
  have hm1 : ¬ (((m + 1 : Nat) : Int) = 0) := by omega
  have hm2 : (1 : Int) ≤ (m : Int) + 1 := by omega
  have hm3 : (1 : Int) ≤ ((m + 1 : Nat) : Int) := by omega
  go_enter Tryz.func17, Tryz.ntmps17
  go_upto_region 1 with (fail)
  generalize hW : World.alloc (World.alloc _ _) _ = W0
  obtain ⟨E0, z0, b0, b1⟩ := boxes2 hW
  clear hW z0
  replace b0 := hid (show Blk W0 (w.heap.size) [_] _ from b0)
  replace b1 := hid (show Blk W0 (w.heap.size + 1) (encEd zE) _ from b1)
  have g0 := b0.out.cells
  have l0 := b0.out.lt
  have E := Ext.refl W0
  have y1 := hid ((E0.cells _ _ hbk).trans y0)
  have hbk1 := hid (Nat.lt_of_lt_of_le hbk E0.le)
  have y2 := y1.out
  have hb2 := hbk1.out
  go_upto_region 6 with (go_at_call 31; refine (pKinds_0 s _ hj).mono ?_; rintro e w2 ⟨rfl, rfl⟩)
  have x0 := g0 0
  simp only [List.getElem?_cons_zero] at x0
  go_region_held3 (fun V => V.cell? ⟨w.heap.size, 0, none⟩ = some (.slice p n c)) (first | exact x0 | exact (E7.cells _ _ l0).trans x0) (first | ((go_at_call 32); refine (pReadW (kpJ 0) (kdJ 0) ws l p _ n c m _ base base2 _ ((hV.ext E0).ext (Ext.refl _).drew) (h.ext CeR.ok (E0.trans (Ext.refl _).drew)) hn (tail_w (hS.ext okStr (E0.trans (Ext.refl _).drew)) hd) hm (fun y hy => hws y (List.mem_cons_of_mem _ hy)) kpJ_size0 (by decide) kpB0 kpT0).mono ?_; rw [← hC9.out]; rintro e w7 ⟨q3, n3, d3, rfl, hv, E7⟩; generalize (ite (d = 1) _ _) = q9))
  replace E7 := (Ext.refl _).drew.trans E7
  clear g0 l0 y2 hb2 x0
  have g0 := (b0.out.ext E7).cells
  have l0 := (b0.out.ext E7).lt
  have y2 := (E7.cells _ _ hbk1.out).trans y1.out
  have hb2 := Nat.lt_of_lt_of_le hbk1.out E7.le
  have r1 := hid (there_blk (b1.out.ext E7))
  go_wp2_with (first | (refine wpList_build rfl 39 #[] rfl [] rfl (encEd zE).toArray built_zE ?_) | ((with_reducible refine at_store ?_); refine wpList_store_mid rfl 39 (Operand.tmp 4) _ rfl (w.heap.size + 1) 0 (encEd zE).toArray rfl rfl r1.out (sz_Ed _) (one_Edit _) ?_))
  generalize hV9 : World.setCells _ _ _ _ = W9
  have kB : Blk W9 (w.heap.size + 1) (encEd zE) 39 := by rw [← hV9]; exact (b1.out.ext E7).setAll (vs := encEd zE) rfl
  have hE2 : Ext w W9 := by rw [← hV9]; exact ext_setCells (by omega) _ _ _ (E0.trans E7)
  clear hV9
  exact bodyPost_ret (v := .tuple #[.agg (encEd zE).toArray, .int .i64 C]) (results_cell_tmp Tryz.results17 _ _ (w.heap.size + 1) 39 (encEd zE).toArray (0, 0) _ rfl kB Tryz.underlying39 rfl (sz_Ed _)) rfl ⟨by rw [hr.out], hE2⟩

set_option maxRecDepth 100000 in
set_option maxHeartbeats 4000000 in
theorem pEditOf_bad1 (s : ByteArray) (ws : List ByteArray) (l : List CeD) (p q : Option Addr) (n c m d base base2 : Nat) (w : World) (hV : Vrs w) (h : SlD CeR 4 base w p n l) (hn : n ≤ 1048576) (hS : SlD (Fl encW) 1 base2 w q (m + 1) (s :: ws)) (hm : m ≤ 1048576) (hd : m + 1 ≤ d) (hws : ∀ y ∈ s :: ws, y.size ≤ 1048576) (hj : kwX s = some 1) (hrw : rwV l (kdJ 1) ws ≠ 0) :
    Calls Tryz.prog 17 #[.agg #[.slice p n c], .slice q (m + 1) d] w fun e w' => e = .returned (.tuple #[.agg (encEd (edV l (s :: ws)).1).toArray, .int .i64 (edV l (s :: ws)).2]) ∧ Ext w w' := by
  have hr0 := edV_bad hj hrw
  obtain ⟨C, hC9⟩ : ∃ C, Hid (C = rwV l (kdJ 1) ws) := ⟨_, hid rfl⟩
  rw [← hC9.out] at hr0 hrw
  have hr := hid hr0
  clear hr0
  have hCB : (C != 0) = true := by simpa using hrw
  have hl := hid h.length
  obtain ⟨b, off, y, hq, hbk, hx, y0⟩ := get_w hS (show 0 < m + 1 by omega)
  subst hq
  obtain rfl : s = y := by have := hx.out; simpa using this
  rw [Nat.add_zero] at y0
  clear hx
  have hm0 : (0 : Int) < ((m + 1 : Nat) : Int) := by omega
  have hm1 : ¬ (((m + 1 : Nat) : Int) = 0) := by omega
  have hm2 : (1 : Int) ≤ (m : Int) + 1 := by omega
  have hm3 : (1 : Int) ≤ ((m + 1 : Nat) : Int) := by omega
  go_enter Tryz.func17, Tryz.ntmps17
  go_upto_region 1 with (fail)
  generalize hW : World.alloc (World.alloc _ _) _ = W0
  obtain ⟨E0, z0, b0, b1⟩ := boxes2 hW
  clear hW z0
  replace b0 := hid (show Blk W0 (w.heap.size) [_] _ from b0)
  replace b1 := hid (show Blk W0 (w.heap.size + 1) (encEd zE) _ from b1)
  have g0 := b0.out.cells
  have l0 := b0.out.lt
  have E := Ext.refl W0
  have y1 := hid ((E0.cells _ _ hbk).trans y0)
  have hbk1 := hid (Nat.lt_of_lt_of_le hbk E0.le)
  have y2 := y1.out
  have hb2 := hbk1.out
  go_upto_region 6 with (go_at_call 31; refine (pKinds_1 s _ hj).mono ?_; rintro e w2 ⟨rfl, rfl⟩)
  have x0 := g0 0
  simp only [List.getElem?_cons_zero] at x0
  go_region_held3 (fun V => V.cell? ⟨w.heap.size, 0, none⟩ = some (.slice p n c)) (first | exact x0 | exact (E7.cells _ _ l0).trans x0) (first | ((go_at_call 32); refine (pReadW (kpJ 1) (kdJ 1) ws l p _ n c m _ base base2 _ ((hV.ext E0).ext (Ext.refl _).drew) (h.ext CeR.ok (E0.trans (Ext.refl _).drew)) hn (tail_w (hS.ext okStr (E0.trans (Ext.refl _).drew)) hd) hm (fun y hy => hws y (List.mem_cons_of_mem _ hy)) kpJ_size1 (by decide) kpB1 kpT1).mono ?_; rw [← hC9.out]; rintro e w7 ⟨q3, n3, d3, rfl, hv, E7⟩; generalize (ite (d = 1) _ _) = q9))
  replace E7 := (Ext.refl _).drew.trans E7
  clear g0 l0 y2 hb2 x0
  have g0 := (b0.out.ext E7).cells
  have l0 := (b0.out.ext E7).lt
  have y2 := (E7.cells _ _ hbk1.out).trans y1.out
  have hb2 := Nat.lt_of_lt_of_le hbk1.out E7.le
  have r1 := hid (there_blk (b1.out.ext E7))
  go_wp2_with (first | (refine wpList_build rfl 39 #[] rfl [] rfl (encEd zE).toArray built_zE ?_) | ((with_reducible refine at_store ?_); refine wpList_store_mid rfl 39 (Operand.tmp 4) _ rfl (w.heap.size + 1) 0 (encEd zE).toArray rfl rfl r1.out (sz_Ed _) (one_Edit _) ?_))
  generalize hV9 : World.setCells _ _ _ _ = W9
  have kB : Blk W9 (w.heap.size + 1) (encEd zE) 39 := by rw [← hV9]; exact (b1.out.ext E7).setAll (vs := encEd zE) rfl
  have hE2 : Ext w W9 := by rw [← hV9]; exact ext_setCells (by omega) _ _ _ (E0.trans E7)
  clear hV9
  exact bodyPost_ret (v := .tuple #[.agg (encEd zE).toArray, .int .i64 C]) (results_cell_tmp Tryz.results17 _ _ (w.heap.size + 1) 39 (encEd zE).toArray (0, 0) _ rfl kB Tryz.underlying39 rfl (sz_Ed _)) rfl ⟨by rw [hr.out], hE2⟩

set_option maxRecDepth 100000 in
set_option maxHeartbeats 4000000 in
theorem pEditOf_bad2 (s : ByteArray) (ws : List ByteArray) (l : List CeD) (p q : Option Addr) (n c m d base base2 : Nat) (w : World) (hV : Vrs w) (h : SlD CeR 4 base w p n l) (hn : n ≤ 1048576) (hS : SlD (Fl encW) 1 base2 w q (m + 1) (s :: ws)) (hm : m ≤ 1048576) (hd : m + 1 ≤ d) (hws : ∀ y ∈ s :: ws, y.size ≤ 1048576) (hj : kwX s = some 2) (hrw : rwV l (kdJ 2) ws ≠ 0) :
    Calls Tryz.prog 17 #[.agg #[.slice p n c], .slice q (m + 1) d] w fun e w' => e = .returned (.tuple #[.agg (encEd (edV l (s :: ws)).1).toArray, .int .i64 (edV l (s :: ws)).2]) ∧ Ext w w' := by
  have hr0 := edV_bad hj hrw
  obtain ⟨C, hC9⟩ : ∃ C, Hid (C = rwV l (kdJ 2) ws) := ⟨_, hid rfl⟩
  rw [← hC9.out] at hr0 hrw
  have hr := hid hr0
  clear hr0
  have hCB : (C != 0) = true := by simpa using hrw
  have hl := hid h.length
  obtain ⟨b, off, y, hq, hbk, hx, y0⟩ := get_w hS (show 0 < m + 1 by omega)
  subst hq
  obtain rfl : s = y := by have := hx.out; simpa using this
  rw [Nat.add_zero] at y0
  clear hx
  have hm0 : (0 : Int) < ((m + 1 : Nat) : Int) := by omega
  have hm1 : ¬ (((m + 1 : Nat) : Int) = 0) := by omega
  have hm2 : (1 : Int) ≤ (m : Int) + 1 := by omega
  have hm3 : (1 : Int) ≤ ((m + 1 : Nat) : Int) := by omega
  go_enter Tryz.func17, Tryz.ntmps17
  go_upto_region 1 with (fail)
  generalize hW : World.alloc (World.alloc _ _) _ = W0
  obtain ⟨E0, z0, b0, b1⟩ := boxes2 hW
  clear hW z0
  replace b0 := hid (show Blk W0 (w.heap.size) [_] _ from b0)
  replace b1 := hid (show Blk W0 (w.heap.size + 1) (encEd zE) _ from b1)
  have g0 := b0.out.cells
  have l0 := b0.out.lt
  have E := Ext.refl W0
  have y1 := hid ((E0.cells _ _ hbk).trans y0)
  have hbk1 := hid (Nat.lt_of_lt_of_le hbk E0.le)
  have y2 := y1.out
  have hb2 := hbk1.out
  go_upto_region 6 with (go_at_call 31; refine (pKinds_2 s _ hj).mono ?_; rintro e w2 ⟨rfl, rfl⟩)
  have x0 := g0 0
  simp only [List.getElem?_cons_zero] at x0
  go_region_held3 (fun V => V.cell? ⟨w.heap.size, 0, none⟩ = some (.slice p n c)) (first | exact x0 | exact (E7.cells _ _ l0).trans x0) (first | ((go_at_call 32); refine (pReadW (kpJ 2) (kdJ 2) ws l p _ n c m _ base base2 _ ((hV.ext E0).ext (Ext.refl _).drew) (h.ext CeR.ok (E0.trans (Ext.refl _).drew)) hn (tail_w (hS.ext okStr (E0.trans (Ext.refl _).drew)) hd) hm (fun y hy => hws y (List.mem_cons_of_mem _ hy)) kpJ_size2 (by decide) kpB2 kpT2).mono ?_; rw [← hC9.out]; rintro e w7 ⟨q3, n3, d3, rfl, hv, E7⟩; generalize (ite (d = 1) _ _) = q9))
  replace E7 := (Ext.refl _).drew.trans E7
  clear g0 l0 y2 hb2 x0
  have g0 := (b0.out.ext E7).cells
  have l0 := (b0.out.ext E7).lt
  have y2 := (E7.cells _ _ hbk1.out).trans y1.out
  have hb2 := Nat.lt_of_lt_of_le hbk1.out E7.le
  have r1 := hid (there_blk (b1.out.ext E7))
  go_wp2_with (first | (refine wpList_build rfl 39 #[] rfl [] rfl (encEd zE).toArray built_zE ?_) | ((with_reducible refine at_store ?_); refine wpList_store_mid rfl 39 (Operand.tmp 4) _ rfl (w.heap.size + 1) 0 (encEd zE).toArray rfl rfl r1.out (sz_Ed _) (one_Edit _) ?_))
  generalize hV9 : World.setCells _ _ _ _ = W9
  have kB : Blk W9 (w.heap.size + 1) (encEd zE) 39 := by rw [← hV9]; exact (b1.out.ext E7).setAll (vs := encEd zE) rfl
  have hE2 : Ext w W9 := by rw [← hV9]; exact ext_setCells (by omega) _ _ _ (E0.trans E7)
  clear hV9
  exact bodyPost_ret (v := .tuple #[.agg (encEd zE).toArray, .int .i64 C]) (results_cell_tmp Tryz.results17 _ _ (w.heap.size + 1) 39 (encEd zE).toArray (0, 0) _ rfl kB Tryz.underlying39 rfl (sz_Ed _)) rfl ⟨by rw [hr.out], hE2⟩

set_option maxRecDepth 100000 in
set_option maxHeartbeats 4000000 in
theorem pEditOf_bad3 (s : ByteArray) (ws : List ByteArray) (l : List CeD) (p q : Option Addr) (n c m d base base2 : Nat) (w : World) (hV : Vrs w) (h : SlD CeR 4 base w p n l) (hn : n ≤ 1048576) (hS : SlD (Fl encW) 1 base2 w q (m + 1) (s :: ws)) (hm : m ≤ 1048576) (hd : m + 1 ≤ d) (hws : ∀ y ∈ s :: ws, y.size ≤ 1048576) (hj : kwX s = some 3) (hrw : rwV l (kdJ 3) ws ≠ 0) :
    Calls Tryz.prog 17 #[.agg #[.slice p n c], .slice q (m + 1) d] w fun e w' => e = .returned (.tuple #[.agg (encEd (edV l (s :: ws)).1).toArray, .int .i64 (edV l (s :: ws)).2]) ∧ Ext w w' := by
  have hr0 := edV_bad hj hrw
  obtain ⟨C, hC9⟩ : ∃ C, Hid (C = rwV l (kdJ 3) ws) := ⟨_, hid rfl⟩
  rw [← hC9.out] at hr0 hrw
  have hr := hid hr0
  clear hr0
  have hCB : (C != 0) = true := by simpa using hrw
  have hl := hid h.length
  obtain ⟨b, off, y, hq, hbk, hx, y0⟩ := get_w hS (show 0 < m + 1 by omega)
  subst hq
  obtain rfl : s = y := by have := hx.out; simpa using this
  rw [Nat.add_zero] at y0
  clear hx
  have hm0 : (0 : Int) < ((m + 1 : Nat) : Int) := by omega
  have hm1 : ¬ (((m + 1 : Nat) : Int) = 0) := by omega
  have hm2 : (1 : Int) ≤ (m : Int) + 1 := by omega
  have hm3 : (1 : Int) ≤ ((m + 1 : Nat) : Int) := by omega
  go_enter Tryz.func17, Tryz.ntmps17
  go_upto_region 1 with (fail)
  generalize hW : World.alloc (World.alloc _ _) _ = W0
  obtain ⟨E0, z0, b0, b1⟩ := boxes2 hW
  clear hW z0
  replace b0 := hid (show Blk W0 (w.heap.size) [_] _ from b0)
  replace b1 := hid (show Blk W0 (w.heap.size + 1) (encEd zE) _ from b1)
  have g0 := b0.out.cells
  have l0 := b0.out.lt
  have E := Ext.refl W0
  have y1 := hid ((E0.cells _ _ hbk).trans y0)
  have hbk1 := hid (Nat.lt_of_lt_of_le hbk E0.le)
  have y2 := y1.out
  have hb2 := hbk1.out
  go_upto_region 6 with (go_at_call 31; refine (pKinds_3 s _ hj).mono ?_; rintro e w2 ⟨rfl, rfl⟩)
  have x0 := g0 0
  simp only [List.getElem?_cons_zero] at x0
  go_region_held3 (fun V => V.cell? ⟨w.heap.size, 0, none⟩ = some (.slice p n c)) (first | exact x0 | exact (E7.cells _ _ l0).trans x0) (first | ((go_at_call 32); refine (pReadW (kpJ 3) (kdJ 3) ws l p _ n c m _ base base2 _ ((hV.ext E0).ext (Ext.refl _).drew) (h.ext CeR.ok (E0.trans (Ext.refl _).drew)) hn (tail_w (hS.ext okStr (E0.trans (Ext.refl _).drew)) hd) hm (fun y hy => hws y (List.mem_cons_of_mem _ hy)) kpJ_size3 (by decide) kpB3 kpT3).mono ?_; rw [← hC9.out]; rintro e w7 ⟨q3, n3, d3, rfl, hv, E7⟩; generalize (ite (d = 1) _ _) = q9))
  replace E7 := (Ext.refl _).drew.trans E7
  clear g0 l0 y2 hb2 x0
  have g0 := (b0.out.ext E7).cells
  have l0 := (b0.out.ext E7).lt
  have y2 := (E7.cells _ _ hbk1.out).trans y1.out
  have hb2 := Nat.lt_of_lt_of_le hbk1.out E7.le
  have r1 := hid (there_blk (b1.out.ext E7))
  go_wp2_with (first | (refine wpList_build rfl 39 #[] rfl [] rfl (encEd zE).toArray built_zE ?_) | ((with_reducible refine at_store ?_); refine wpList_store_mid rfl 39 (Operand.tmp 4) _ rfl (w.heap.size + 1) 0 (encEd zE).toArray rfl rfl r1.out (sz_Ed _) (one_Edit _) ?_))
  generalize hV9 : World.setCells _ _ _ _ = W9
  have kB : Blk W9 (w.heap.size + 1) (encEd zE) 39 := by rw [← hV9]; exact (b1.out.ext E7).setAll (vs := encEd zE) rfl
  have hE2 : Ext w W9 := by rw [← hV9]; exact ext_setCells (by omega) _ _ _ (E0.trans E7)
  clear hV9
  exact bodyPost_ret (v := .tuple #[.agg (encEd zE).toArray, .int .i64 C]) (results_cell_tmp Tryz.results17 _ _ (w.heap.size + 1) 39 (encEd zE).toArray (0, 0) _ rfl kB Tryz.underlying39 rfl (sz_Ed _)) rfl ⟨by rw [hr.out], hE2⟩

set_option maxRecDepth 100000 in
set_option maxHeartbeats 4000000 in
theorem pEditOf_bad4 (s : ByteArray) (ws : List ByteArray) (l : List CeD) (p q : Option Addr) (n c m d base base2 : Nat) (w : World) (hV : Vrs w) (h : SlD CeR 4 base w p n l) (hn : n ≤ 1048576) (hS : SlD (Fl encW) 1 base2 w q (m + 1) (s :: ws)) (hm : m ≤ 1048576) (hd : m + 1 ≤ d) (hws : ∀ y ∈ s :: ws, y.size ≤ 1048576) (hj : kwX s = some 4) (hrw : rwV l (kdJ 4) ws ≠ 0) :
    Calls Tryz.prog 17 #[.agg #[.slice p n c], .slice q (m + 1) d] w fun e w' => e = .returned (.tuple #[.agg (encEd (edV l (s :: ws)).1).toArray, .int .i64 (edV l (s :: ws)).2]) ∧ Ext w w' := by
  have hr0 := edV_bad hj hrw
  obtain ⟨C, hC9⟩ : ∃ C, Hid (C = rwV l (kdJ 4) ws) := ⟨_, hid rfl⟩
  rw [← hC9.out] at hr0 hrw
  have hr := hid hr0
  clear hr0
  have hCB : (C != 0) = true := by simpa using hrw
  have hl := hid h.length
  obtain ⟨b, off, y, hq, hbk, hx, y0⟩ := get_w hS (show 0 < m + 1 by omega)
  subst hq
  obtain rfl : s = y := by have := hx.out; simpa using this
  rw [Nat.add_zero] at y0
  clear hx
  have hm0 : (0 : Int) < ((m + 1 : Nat) : Int) := by omega
  have hm1 : ¬ (((m + 1 : Nat) : Int) = 0) := by omega
  have hm2 : (1 : Int) ≤ (m : Int) + 1 := by omega
  have hm3 : (1 : Int) ≤ ((m + 1 : Nat) : Int) := by omega
  go_enter Tryz.func17, Tryz.ntmps17
  go_upto_region 1 with (fail)
  generalize hW : World.alloc (World.alloc _ _) _ = W0
  obtain ⟨E0, z0, b0, b1⟩ := boxes2 hW
  clear hW z0
  replace b0 := hid (show Blk W0 (w.heap.size) [_] _ from b0)
  replace b1 := hid (show Blk W0 (w.heap.size + 1) (encEd zE) _ from b1)
  have g0 := b0.out.cells
  have l0 := b0.out.lt
  have E := Ext.refl W0
  have y1 := hid ((E0.cells _ _ hbk).trans y0)
  have hbk1 := hid (Nat.lt_of_lt_of_le hbk E0.le)
  have y2 := y1.out
  have hb2 := hbk1.out
  go_upto_region 6 with (go_at_call 31; refine (pKinds_4 s _ hj).mono ?_; rintro e w2 ⟨rfl, rfl⟩)
  have x0 := g0 0
  simp only [List.getElem?_cons_zero] at x0
  go_region_held3 (fun V => V.cell? ⟨w.heap.size, 0, none⟩ = some (.slice p n c)) (first | exact x0 | exact (E7.cells _ _ l0).trans x0) (first | ((go_at_call 32); refine (pReadW (kpJ 4) (kdJ 4) ws l p _ n c m _ base base2 _ ((hV.ext E0).ext (Ext.refl _).drew) (h.ext CeR.ok (E0.trans (Ext.refl _).drew)) hn (tail_w (hS.ext okStr (E0.trans (Ext.refl _).drew)) hd) hm (fun y hy => hws y (List.mem_cons_of_mem _ hy)) kpJ_size4 (by decide) kpB4 kpT4).mono ?_; rw [← hC9.out]; rintro e w7 ⟨q3, n3, d3, rfl, hv, E7⟩; generalize (ite (d = 1) _ _) = q9))
  replace E7 := (Ext.refl _).drew.trans E7
  clear g0 l0 y2 hb2 x0
  have g0 := (b0.out.ext E7).cells
  have l0 := (b0.out.ext E7).lt
  have y2 := (E7.cells _ _ hbk1.out).trans y1.out
  have hb2 := Nat.lt_of_lt_of_le hbk1.out E7.le
  have r1 := hid (there_blk (b1.out.ext E7))
  go_wp2_with (first | (refine wpList_build rfl 39 #[] rfl [] rfl (encEd zE).toArray built_zE ?_) | ((with_reducible refine at_store ?_); refine wpList_store_mid rfl 39 (Operand.tmp 4) _ rfl (w.heap.size + 1) 0 (encEd zE).toArray rfl rfl r1.out (sz_Ed _) (one_Edit _) ?_))
  generalize hV9 : World.setCells _ _ _ _ = W9
  have kB : Blk W9 (w.heap.size + 1) (encEd zE) 39 := by rw [← hV9]; exact (b1.out.ext E7).setAll (vs := encEd zE) rfl
  have hE2 : Ext w W9 := by rw [← hV9]; exact ext_setCells (by omega) _ _ _ (E0.trans E7)
  clear hV9
  exact bodyPost_ret (v := .tuple #[.agg (encEd zE).toArray, .int .i64 C]) (results_cell_tmp Tryz.results17 _ _ (w.heap.size + 1) 39 (encEd zE).toArray (0, 0) _ rfl kB Tryz.underlying39 rfl (sz_Ed _)) rfl ⟨by rw [hr.out], hE2⟩

set_option maxRecDepth 100000 in
set_option maxHeartbeats 4000000 in
theorem pEditOf_bad5 (s : ByteArray) (ws : List ByteArray) (l : List CeD) (p q : Option Addr) (n c m d base base2 : Nat) (w : World) (hV : Vrs w) (h : SlD CeR 4 base w p n l) (hn : n ≤ 1048576) (hS : SlD (Fl encW) 1 base2 w q (m + 1) (s :: ws)) (hm : m ≤ 1048576) (hd : m + 1 ≤ d) (hws : ∀ y ∈ s :: ws, y.size ≤ 1048576) (hj : kwX s = some 5) (hrw : rwV l (kdJ 5) ws ≠ 0) :
    Calls Tryz.prog 17 #[.agg #[.slice p n c], .slice q (m + 1) d] w fun e w' => e = .returned (.tuple #[.agg (encEd (edV l (s :: ws)).1).toArray, .int .i64 (edV l (s :: ws)).2]) ∧ Ext w w' := by
  have hr0 := edV_bad hj hrw
  obtain ⟨C, hC9⟩ : ∃ C, Hid (C = rwV l (kdJ 5) ws) := ⟨_, hid rfl⟩
  rw [← hC9.out] at hr0 hrw
  have hr := hid hr0
  clear hr0
  have hCB : (C != 0) = true := by simpa using hrw
  have hl := hid h.length
  obtain ⟨b, off, y, hq, hbk, hx, y0⟩ := get_w hS (show 0 < m + 1 by omega)
  subst hq
  obtain rfl : s = y := by have := hx.out; simpa using this
  rw [Nat.add_zero] at y0
  clear hx
  have hm0 : (0 : Int) < ((m + 1 : Nat) : Int) := by omega
  have hm1 : ¬ (((m + 1 : Nat) : Int) = 0) := by omega
  have hm2 : (1 : Int) ≤ (m : Int) + 1 := by omega
  have hm3 : (1 : Int) ≤ ((m + 1 : Nat) : Int) := by omega
  go_enter Tryz.func17, Tryz.ntmps17
  go_upto_region 1 with (fail)
  generalize hW : World.alloc (World.alloc _ _) _ = W0
  obtain ⟨E0, z0, b0, b1⟩ := boxes2 hW
  clear hW z0
  replace b0 := hid (show Blk W0 (w.heap.size) [_] _ from b0)
  replace b1 := hid (show Blk W0 (w.heap.size + 1) (encEd zE) _ from b1)
  have g0 := b0.out.cells
  have l0 := b0.out.lt
  have E := Ext.refl W0
  have y1 := hid ((E0.cells _ _ hbk).trans y0)
  have hbk1 := hid (Nat.lt_of_lt_of_le hbk E0.le)
  have y2 := y1.out
  have hb2 := hbk1.out
  go_upto_region 6 with (go_at_call 31; refine (pKinds_5 s _ hj).mono ?_; rintro e w2 ⟨rfl, rfl⟩)
  have x0 := g0 0
  simp only [List.getElem?_cons_zero] at x0
  go_region_held3 (fun V => V.cell? ⟨w.heap.size, 0, none⟩ = some (.slice p n c)) (first | exact x0 | exact (E7.cells _ _ l0).trans x0) (first | ((go_at_call 32); refine (pReadW (kpJ 5) (kdJ 5) ws l p _ n c m _ base base2 _ ((hV.ext E0).ext (Ext.refl _).drew) (h.ext CeR.ok (E0.trans (Ext.refl _).drew)) hn (tail_w (hS.ext okStr (E0.trans (Ext.refl _).drew)) hd) hm (fun y hy => hws y (List.mem_cons_of_mem _ hy)) kpJ_size5 (by decide) kpB5 kpT5).mono ?_; rw [← hC9.out]; rintro e w7 ⟨q3, n3, d3, rfl, hv, E7⟩; generalize (ite (d = 1) _ _) = q9))
  replace E7 := (Ext.refl _).drew.trans E7
  clear g0 l0 y2 hb2 x0
  have g0 := (b0.out.ext E7).cells
  have l0 := (b0.out.ext E7).lt
  have y2 := (E7.cells _ _ hbk1.out).trans y1.out
  have hb2 := Nat.lt_of_lt_of_le hbk1.out E7.le
  have r1 := hid (there_blk (b1.out.ext E7))
  go_wp2_with (first | (refine wpList_build rfl 39 #[] rfl [] rfl (encEd zE).toArray built_zE ?_) | ((with_reducible refine at_store ?_); refine wpList_store_mid rfl 39 (Operand.tmp 4) _ rfl (w.heap.size + 1) 0 (encEd zE).toArray rfl rfl r1.out (sz_Ed _) (one_Edit _) ?_))
  generalize hV9 : World.setCells _ _ _ _ = W9
  have kB : Blk W9 (w.heap.size + 1) (encEd zE) 39 := by rw [← hV9]; exact (b1.out.ext E7).setAll (vs := encEd zE) rfl
  have hE2 : Ext w W9 := by rw [← hV9]; exact ext_setCells (by omega) _ _ _ (E0.trans E7)
  clear hV9
  exact bodyPost_ret (v := .tuple #[.agg (encEd zE).toArray, .int .i64 C]) (results_cell_tmp Tryz.results17 _ _ (w.heap.size + 1) 39 (encEd zE).toArray (0, 0) _ rfl kB Tryz.underlying39 rfl (sz_Ed _)) rfl ⟨by rw [hr.out], hE2⟩

set_option maxRecDepth 100000 in
set_option maxHeartbeats 4000000 in
theorem pEditOf_bad6 (s : ByteArray) (ws : List ByteArray) (l : List CeD) (p q : Option Addr) (n c m d base base2 : Nat) (w : World) (hV : Vrs w) (h : SlD CeR 4 base w p n l) (hn : n ≤ 1048576) (hS : SlD (Fl encW) 1 base2 w q (m + 1) (s :: ws)) (hm : m ≤ 1048576) (hd : m + 1 ≤ d) (hws : ∀ y ∈ s :: ws, y.size ≤ 1048576) (hj : kwX s = some 6) (hrw : rwV l (kdJ 6) ws ≠ 0) :
    Calls Tryz.prog 17 #[.agg #[.slice p n c], .slice q (m + 1) d] w fun e w' => e = .returned (.tuple #[.agg (encEd (edV l (s :: ws)).1).toArray, .int .i64 (edV l (s :: ws)).2]) ∧ Ext w w' := by
  have hr0 := edV_bad hj hrw
  obtain ⟨C, hC9⟩ : ∃ C, Hid (C = rwV l (kdJ 6) ws) := ⟨_, hid rfl⟩
  rw [← hC9.out] at hr0 hrw
  have hr := hid hr0
  clear hr0
  have hCB : (C != 0) = true := by simpa using hrw
  have hl := hid h.length
  obtain ⟨b, off, y, hq, hbk, hx, y0⟩ := get_w hS (show 0 < m + 1 by omega)
  subst hq
  obtain rfl : s = y := by have := hx.out; simpa using this
  rw [Nat.add_zero] at y0
  clear hx
  have hm0 : (0 : Int) < ((m + 1 : Nat) : Int) := by omega
  have hm1 : ¬ (((m + 1 : Nat) : Int) = 0) := by omega
  have hm2 : (1 : Int) ≤ (m : Int) + 1 := by omega
  have hm3 : (1 : Int) ≤ ((m + 1 : Nat) : Int) := by omega
  go_enter Tryz.func17, Tryz.ntmps17
  go_upto_region 1 with (fail)
  generalize hW : World.alloc (World.alloc _ _) _ = W0
  obtain ⟨E0, z0, b0, b1⟩ := boxes2 hW
  clear hW z0
  replace b0 := hid (show Blk W0 (w.heap.size) [_] _ from b0)
  replace b1 := hid (show Blk W0 (w.heap.size + 1) (encEd zE) _ from b1)
  have g0 := b0.out.cells
  have l0 := b0.out.lt
  have E := Ext.refl W0
  have y1 := hid ((E0.cells _ _ hbk).trans y0)
  have hbk1 := hid (Nat.lt_of_lt_of_le hbk E0.le)
  have y2 := y1.out
  have hb2 := hbk1.out
  go_upto_region 6 with (go_at_call 31; refine (pKinds_6 s _ hj).mono ?_; rintro e w2 ⟨rfl, rfl⟩)
  have x0 := g0 0
  simp only [List.getElem?_cons_zero] at x0
  go_region_held3 (fun V => V.cell? ⟨w.heap.size, 0, none⟩ = some (.slice p n c)) (first | exact x0 | exact (E7.cells _ _ l0).trans x0) (first | ((go_at_call 32); refine (pReadW (kpJ 6) (kdJ 6) ws l p _ n c m _ base base2 _ ((hV.ext E0).ext (Ext.refl _).drew) (h.ext CeR.ok (E0.trans (Ext.refl _).drew)) hn (tail_w (hS.ext okStr (E0.trans (Ext.refl _).drew)) hd) hm (fun y hy => hws y (List.mem_cons_of_mem _ hy)) kpJ_size6 (by decide) kpB6 kpT6).mono ?_; rw [← hC9.out]; rintro e w7 ⟨q3, n3, d3, rfl, hv, E7⟩; generalize (ite (d = 1) _ _) = q9))
  replace E7 := (Ext.refl _).drew.trans E7
  clear g0 l0 y2 hb2 x0
  have g0 := (b0.out.ext E7).cells
  have l0 := (b0.out.ext E7).lt
  have y2 := (E7.cells _ _ hbk1.out).trans y1.out
  have hb2 := Nat.lt_of_lt_of_le hbk1.out E7.le
  have r1 := hid (there_blk (b1.out.ext E7))
  go_wp2_with (first | (refine wpList_build rfl 39 #[] rfl [] rfl (encEd zE).toArray built_zE ?_) | ((with_reducible refine at_store ?_); refine wpList_store_mid rfl 39 (Operand.tmp 4) _ rfl (w.heap.size + 1) 0 (encEd zE).toArray rfl rfl r1.out (sz_Ed _) (one_Edit _) ?_))
  generalize hV9 : World.setCells _ _ _ _ = W9
  have kB : Blk W9 (w.heap.size + 1) (encEd zE) 39 := by rw [← hV9]; exact (b1.out.ext E7).setAll (vs := encEd zE) rfl
  have hE2 : Ext w W9 := by rw [← hV9]; exact ext_setCells (by omega) _ _ _ (E0.trans E7)
  clear hV9
  exact bodyPost_ret (v := .tuple #[.agg (encEd zE).toArray, .int .i64 C]) (results_cell_tmp Tryz.results17 _ _ (w.heap.size + 1) 39 (encEd zE).toArray (0, 0) _ rfl kB Tryz.underlying39 rfl (sz_Ed _)) rfl ⟨by rw [hr.out], hE2⟩

set_option maxRecDepth 100000 in
set_option maxHeartbeats 4000000 in
theorem pEditOf_bad7 (s : ByteArray) (ws : List ByteArray) (l : List CeD) (p q : Option Addr) (n c m d base base2 : Nat) (w : World) (hV : Vrs w) (h : SlD CeR 4 base w p n l) (hn : n ≤ 1048576) (hS : SlD (Fl encW) 1 base2 w q (m + 1) (s :: ws)) (hm : m ≤ 1048576) (hd : m + 1 ≤ d) (hws : ∀ y ∈ s :: ws, y.size ≤ 1048576) (hj : kwX s = some 7) (hrw : rwV l (kdJ 7) ws ≠ 0) :
    Calls Tryz.prog 17 #[.agg #[.slice p n c], .slice q (m + 1) d] w fun e w' => e = .returned (.tuple #[.agg (encEd (edV l (s :: ws)).1).toArray, .int .i64 (edV l (s :: ws)).2]) ∧ Ext w w' := by
  have hr0 := edV_bad hj hrw
  obtain ⟨C, hC9⟩ : ∃ C, Hid (C = rwV l (kdJ 7) ws) := ⟨_, hid rfl⟩
  rw [← hC9.out] at hr0 hrw
  have hr := hid hr0
  clear hr0
  have hCB : (C != 0) = true := by simpa using hrw
  have hl := hid h.length
  obtain ⟨b, off, y, hq, hbk, hx, y0⟩ := get_w hS (show 0 < m + 1 by omega)
  subst hq
  obtain rfl : s = y := by have := hx.out; simpa using this
  rw [Nat.add_zero] at y0
  clear hx
  have hm0 : (0 : Int) < ((m + 1 : Nat) : Int) := by omega
  have hm1 : ¬ (((m + 1 : Nat) : Int) = 0) := by omega
  have hm2 : (1 : Int) ≤ (m : Int) + 1 := by omega
  have hm3 : (1 : Int) ≤ ((m + 1 : Nat) : Int) := by omega
  go_enter Tryz.func17, Tryz.ntmps17
  go_upto_region 1 with (fail)
  generalize hW : World.alloc (World.alloc _ _) _ = W0
  obtain ⟨E0, z0, b0, b1⟩ := boxes2 hW
  clear hW z0
  replace b0 := hid (show Blk W0 (w.heap.size) [_] _ from b0)
  replace b1 := hid (show Blk W0 (w.heap.size + 1) (encEd zE) _ from b1)
  have g0 := b0.out.cells
  have l0 := b0.out.lt
  have E := Ext.refl W0
  have y1 := hid ((E0.cells _ _ hbk).trans y0)
  have hbk1 := hid (Nat.lt_of_lt_of_le hbk E0.le)
  have y2 := y1.out
  have hb2 := hbk1.out
  go_upto_region 6 with (go_at_call 31; refine (pKinds_7 s _ hj).mono ?_; rintro e w2 ⟨rfl, rfl⟩)
  have x0 := g0 0
  simp only [List.getElem?_cons_zero] at x0
  go_region_held3 (fun V => V.cell? ⟨w.heap.size, 0, none⟩ = some (.slice p n c)) (first | exact x0 | exact (E7.cells _ _ l0).trans x0) (first | ((go_at_call 32); refine (pReadW (kpJ 7) (kdJ 7) ws l p _ n c m _ base base2 _ ((hV.ext E0).ext (Ext.refl _).drew) (h.ext CeR.ok (E0.trans (Ext.refl _).drew)) hn (tail_w (hS.ext okStr (E0.trans (Ext.refl _).drew)) hd) hm (fun y hy => hws y (List.mem_cons_of_mem _ hy)) kpJ_size7 (by decide) kpB7 kpT7).mono ?_; rw [← hC9.out]; rintro e w7 ⟨q3, n3, d3, rfl, hv, E7⟩; generalize (ite (d = 1) _ _) = q9))
  replace E7 := (Ext.refl _).drew.trans E7
  clear g0 l0 y2 hb2 x0
  have g0 := (b0.out.ext E7).cells
  have l0 := (b0.out.ext E7).lt
  have y2 := (E7.cells _ _ hbk1.out).trans y1.out
  have hb2 := Nat.lt_of_lt_of_le hbk1.out E7.le
  have r1 := hid (there_blk (b1.out.ext E7))
  go_wp2_with (first | (refine wpList_build rfl 39 #[] rfl [] rfl (encEd zE).toArray built_zE ?_) | ((with_reducible refine at_store ?_); refine wpList_store_mid rfl 39 (Operand.tmp 4) _ rfl (w.heap.size + 1) 0 (encEd zE).toArray rfl rfl r1.out (sz_Ed _) (one_Edit _) ?_))
  generalize hV9 : World.setCells _ _ _ _ = W9
  have kB : Blk W9 (w.heap.size + 1) (encEd zE) 39 := by rw [← hV9]; exact (b1.out.ext E7).setAll (vs := encEd zE) rfl
  have hE2 : Ext w W9 := by rw [← hV9]; exact ext_setCells (by omega) _ _ _ (E0.trans E7)
  clear hV9
  exact bodyPost_ret (v := .tuple #[.agg (encEd zE).toArray, .int .i64 C]) (results_cell_tmp Tryz.results17 _ _ (w.heap.size + 1) 39 (encEd zE).toArray (0, 0) _ rfl kB Tryz.underlying39 rfl (sz_Ed _)) rfl ⟨by rw [hr.out], hE2⟩

set_option maxRecDepth 100000 in
set_option maxHeartbeats 4000000 in
theorem pEditOf_bad8 (s : ByteArray) (ws : List ByteArray) (l : List CeD) (p q : Option Addr) (n c m d base base2 : Nat) (w : World) (hV : Vrs w) (h : SlD CeR 4 base w p n l) (hn : n ≤ 1048576) (hS : SlD (Fl encW) 1 base2 w q (m + 1) (s :: ws)) (hm : m ≤ 1048576) (hd : m + 1 ≤ d) (hws : ∀ y ∈ s :: ws, y.size ≤ 1048576) (hj : kwX s = some 8) (hrw : rwV l (kdJ 8) ws ≠ 0) :
    Calls Tryz.prog 17 #[.agg #[.slice p n c], .slice q (m + 1) d] w fun e w' => e = .returned (.tuple #[.agg (encEd (edV l (s :: ws)).1).toArray, .int .i64 (edV l (s :: ws)).2]) ∧ Ext w w' := by
  have hr0 := edV_bad hj hrw
  obtain ⟨C, hC9⟩ : ∃ C, Hid (C = rwV l (kdJ 8) ws) := ⟨_, hid rfl⟩
  rw [← hC9.out] at hr0 hrw
  have hr := hid hr0
  clear hr0
  have hCB : (C != 0) = true := by simpa using hrw
  have hl := hid h.length
  obtain ⟨b, off, y, hq, hbk, hx, y0⟩ := get_w hS (show 0 < m + 1 by omega)
  subst hq
  obtain rfl : s = y := by have := hx.out; simpa using this
  rw [Nat.add_zero] at y0
  clear hx
  have hm0 : (0 : Int) < ((m + 1 : Nat) : Int) := by omega
  have hm1 : ¬ (((m + 1 : Nat) : Int) = 0) := by omega
  have hm2 : (1 : Int) ≤ (m : Int) + 1 := by omega
  have hm3 : (1 : Int) ≤ ((m + 1 : Nat) : Int) := by omega
  go_enter Tryz.func17, Tryz.ntmps17
  go_upto_region 1 with (fail)
  generalize hW : World.alloc (World.alloc _ _) _ = W0
  obtain ⟨E0, z0, b0, b1⟩ := boxes2 hW
  clear hW z0
  replace b0 := hid (show Blk W0 (w.heap.size) [_] _ from b0)
  replace b1 := hid (show Blk W0 (w.heap.size + 1) (encEd zE) _ from b1)
  have g0 := b0.out.cells
  have l0 := b0.out.lt
  have E := Ext.refl W0
  have y1 := hid ((E0.cells _ _ hbk).trans y0)
  have hbk1 := hid (Nat.lt_of_lt_of_le hbk E0.le)
  have y2 := y1.out
  have hb2 := hbk1.out
  go_upto_region 6 with (go_at_call 31; refine (pKinds_8 s _ hj).mono ?_; rintro e w2 ⟨rfl, rfl⟩)
  have x0 := g0 0
  simp only [List.getElem?_cons_zero] at x0
  go_region_held3 (fun V => V.cell? ⟨w.heap.size, 0, none⟩ = some (.slice p n c)) (first | exact x0 | exact (E7.cells _ _ l0).trans x0) (first | ((go_at_call 32); refine (pReadW (kpJ 8) (kdJ 8) ws l p _ n c m _ base base2 _ ((hV.ext E0).ext (Ext.refl _).drew) (h.ext CeR.ok (E0.trans (Ext.refl _).drew)) hn (tail_w (hS.ext okStr (E0.trans (Ext.refl _).drew)) hd) hm (fun y hy => hws y (List.mem_cons_of_mem _ hy)) kpJ_size8 (by decide) kpB8 kpT8).mono ?_; rw [← hC9.out]; rintro e w7 ⟨q3, n3, d3, rfl, hv, E7⟩; generalize (ite (d = 1) _ _) = q9))
  replace E7 := (Ext.refl _).drew.trans E7
  clear g0 l0 y2 hb2 x0
  have g0 := (b0.out.ext E7).cells
  have l0 := (b0.out.ext E7).lt
  have y2 := (E7.cells _ _ hbk1.out).trans y1.out
  have hb2 := Nat.lt_of_lt_of_le hbk1.out E7.le
  have r1 := hid (there_blk (b1.out.ext E7))
  go_wp2_with (first | (refine wpList_build rfl 39 #[] rfl [] rfl (encEd zE).toArray built_zE ?_) | ((with_reducible refine at_store ?_); refine wpList_store_mid rfl 39 (Operand.tmp 4) _ rfl (w.heap.size + 1) 0 (encEd zE).toArray rfl rfl r1.out (sz_Ed _) (one_Edit _) ?_))
  generalize hV9 : World.setCells _ _ _ _ = W9
  have kB : Blk W9 (w.heap.size + 1) (encEd zE) 39 := by rw [← hV9]; exact (b1.out.ext E7).setAll (vs := encEd zE) rfl
  have hE2 : Ext w W9 := by rw [← hV9]; exact ext_setCells (by omega) _ _ _ (E0.trans E7)
  clear hV9
  exact bodyPost_ret (v := .tuple #[.agg (encEd zE).toArray, .int .i64 C]) (results_cell_tmp Tryz.results17 _ _ (w.heap.size + 1) 39 (encEd zE).toArray (0, 0) _ rfl kB Tryz.underlying39 rfl (sz_Ed _)) rfl ⟨by rw [hr.out], hE2⟩

set_option maxRecDepth 100000 in
set_option maxHeartbeats 4000000 in
theorem pEditOf_bad9 (s : ByteArray) (ws : List ByteArray) (l : List CeD) (p q : Option Addr) (n c m d base base2 : Nat) (w : World) (hV : Vrs w) (h : SlD CeR 4 base w p n l) (hn : n ≤ 1048576) (hS : SlD (Fl encW) 1 base2 w q (m + 1) (s :: ws)) (hm : m ≤ 1048576) (hd : m + 1 ≤ d) (hws : ∀ y ∈ s :: ws, y.size ≤ 1048576) (hj : kwX s = some 9) (hrw : rwV l (kdJ 9) ws ≠ 0) :
    Calls Tryz.prog 17 #[.agg #[.slice p n c], .slice q (m + 1) d] w fun e w' => e = .returned (.tuple #[.agg (encEd (edV l (s :: ws)).1).toArray, .int .i64 (edV l (s :: ws)).2]) ∧ Ext w w' := by
  have hr0 := edV_bad hj hrw
  obtain ⟨C, hC9⟩ : ∃ C, Hid (C = rwV l (kdJ 9) ws) := ⟨_, hid rfl⟩
  rw [← hC9.out] at hr0 hrw
  have hr := hid hr0
  clear hr0
  have hCB : (C != 0) = true := by simpa using hrw
  have hl := hid h.length
  obtain ⟨b, off, y, hq, hbk, hx, y0⟩ := get_w hS (show 0 < m + 1 by omega)
  subst hq
  obtain rfl : s = y := by have := hx.out; simpa using this
  rw [Nat.add_zero] at y0
  clear hx
  have hm0 : (0 : Int) < ((m + 1 : Nat) : Int) := by omega
  have hm1 : ¬ (((m + 1 : Nat) : Int) = 0) := by omega
  have hm2 : (1 : Int) ≤ (m : Int) + 1 := by omega
  have hm3 : (1 : Int) ≤ ((m + 1 : Nat) : Int) := by omega
  go_enter Tryz.func17, Tryz.ntmps17
  go_upto_region 1 with (fail)
  generalize hW : World.alloc (World.alloc _ _) _ = W0
  obtain ⟨E0, z0, b0, b1⟩ := boxes2 hW
  clear hW z0
  replace b0 := hid (show Blk W0 (w.heap.size) [_] _ from b0)
  replace b1 := hid (show Blk W0 (w.heap.size + 1) (encEd zE) _ from b1)
  have g0 := b0.out.cells
  have l0 := b0.out.lt
  have E := Ext.refl W0
  have y1 := hid ((E0.cells _ _ hbk).trans y0)
  have hbk1 := hid (Nat.lt_of_lt_of_le hbk E0.le)
  have y2 := y1.out
  have hb2 := hbk1.out
  go_upto_region 6 with (go_at_call 31; refine (pKinds_9 s _ hj).mono ?_; rintro e w2 ⟨rfl, rfl⟩)
  have x0 := g0 0
  simp only [List.getElem?_cons_zero] at x0
  go_region_held3 (fun V => V.cell? ⟨w.heap.size, 0, none⟩ = some (.slice p n c)) (first | exact x0 | exact (E7.cells _ _ l0).trans x0) (first | ((go_at_call 32); refine (pReadW (kpJ 9) (kdJ 9) ws l p _ n c m _ base base2 _ ((hV.ext E0).ext (Ext.refl _).drew) (h.ext CeR.ok (E0.trans (Ext.refl _).drew)) hn (tail_w (hS.ext okStr (E0.trans (Ext.refl _).drew)) hd) hm (fun y hy => hws y (List.mem_cons_of_mem _ hy)) kpJ_size9 (by decide) kpB9 kpT9).mono ?_; rw [← hC9.out]; rintro e w7 ⟨q3, n3, d3, rfl, hv, E7⟩; generalize (ite (d = 1) _ _) = q9))
  replace E7 := (Ext.refl _).drew.trans E7
  clear g0 l0 y2 hb2 x0
  have g0 := (b0.out.ext E7).cells
  have l0 := (b0.out.ext E7).lt
  have y2 := (E7.cells _ _ hbk1.out).trans y1.out
  have hb2 := Nat.lt_of_lt_of_le hbk1.out E7.le
  have r1 := hid (there_blk (b1.out.ext E7))
  go_wp2_with (first | (refine wpList_build rfl 39 #[] rfl [] rfl (encEd zE).toArray built_zE ?_) | ((with_reducible refine at_store ?_); refine wpList_store_mid rfl 39 (Operand.tmp 4) _ rfl (w.heap.size + 1) 0 (encEd zE).toArray rfl rfl r1.out (sz_Ed _) (one_Edit _) ?_))
  generalize hV9 : World.setCells _ _ _ _ = W9
  have kB : Blk W9 (w.heap.size + 1) (encEd zE) 39 := by rw [← hV9]; exact (b1.out.ext E7).setAll (vs := encEd zE) rfl
  have hE2 : Ext w W9 := by rw [← hV9]; exact ext_setCells (by omega) _ _ _ (E0.trans E7)
  clear hV9
  exact bodyPost_ret (v := .tuple #[.agg (encEd zE).toArray, .int .i64 C]) (results_cell_tmp Tryz.results17 _ _ (w.heap.size + 1) 39 (encEd zE).toArray (0, 0) _ rfl kB Tryz.underlying39 rfl (sz_Ed _)) rfl ⟨by rw [hr.out], hE2⟩

set_option maxRecDepth 100000 in
set_option maxHeartbeats 4000000 in
theorem pEditOf_good0 (s : ByteArray) (ws : List ByteArray) (l : List CeD) (p q : Option Addr) (n c m d base base2 : Nat) (w : World) (hV : Vrs w) (h : SlD CeR 4 base w p n l) (hn : n ≤ 1048576) (hS : SlD (Fl encW) 1 base2 w q (m + 1) (s :: ws)) (hm : m ≤ 1048576) (hd : m + 1 ≤ d) (hws : ∀ y ∈ s :: ws, y.size ≤ 1048576) (hj : kwX s = some 0) (hrw : rwV l (kdJ 0) ws = 0) :
    Calls Tryz.prog 17 #[.agg #[.slice p n c], .slice q (m + 1) d] w fun e w' => e = .returned (.tuple #[.agg (encEd (edV l (s :: ws)).1).toArray, .int .i64 (edV l (s :: ws)).2]) ∧ Ext w w' := by
  obtain ⟨hlen, hrf⟩ := rw_ok hrw
  have hlen2 : ws.length = 1 := hlen
  clear hlen
  obtain ⟨a1, ws1, rfl⟩ : ∃ a t, ws = a :: t := by
    cases ws with
    | nil => simp at hlen2
    | cons a t => exact ⟨a, t, rfl⟩
  obtain rfl : ws1 = [] := by
    cases ws1 with
    | nil => rfl
    | cons a t => simp at hlen2
  clear hlen2
  have hmr := hid (show m = 1 by have := hS.length; simp at this; omega)
  obtain ⟨V1, hV1⟩ : ∃ V, Hid (V = wN l 4 a1) := ⟨_, hid rfl⟩
  have hvs : Hid (vsV l (kdJ 0) [a1] = [V1]) := by
    show _ = _
    rw [hV1.out]
    rfl
  clear hrf
  have hl := hid h.length
  obtain ⟨b, off, y, hq, hbk, hx, y0⟩ := get_w hS (show 0 < m + 1 by omega)
  subst hq
  obtain rfl : s = y := by have := hx.out; simpa using this
  rw [Nat.add_zero] at y0
  clear hx
  have hm0 : (0 : Int) < ((m + 1 : Nat) : Int) := by omega
  have hm1 : ¬ (((m + 1 : Nat) : Int) = 0) := by omega
  have hm2 : (1 : Int) ≤ (m : Int) + 1 := by omega
  have hm3 : (1 : Int) ≤ ((m + 1 : Nat) : Int) := by omega
  go_enter Tryz.func17, Tryz.ntmps17
  go_upto_region 1 with (fail)
  generalize hW : World.alloc (World.alloc _ _) _ = W0
  obtain ⟨E0, z0, b0, b1⟩ := boxes2 hW
  clear hW z0
  replace b0 := hid (show Blk W0 (w.heap.size) [_] _ from b0)
  replace b1 := hid (show Blk W0 (w.heap.size + 1) (encEd zE) _ from b1)
  have g0 := b0.out.cells
  have l0 := b0.out.lt
  have E := Ext.refl W0
  have y1 := hid ((E0.cells _ _ hbk).trans y0)
  have hbk1 := hid (Nat.lt_of_lt_of_le hbk E0.le)
  have y2 := y1.out
  have hb2 := hbk1.out
  go_upto_region 6 with (go_at_call 31; refine (pKinds_0 s _ hj).mono ?_; rintro e w2 ⟨rfl, rfl⟩)
  have x0 := g0 0
  simp only [List.getElem?_cons_zero] at x0
  go_region_held3 (fun V => V.cell? ⟨w.heap.size, 0, none⟩ = some (.slice p n c)) (first | exact x0 | exact (E7.cells _ _ l0).trans x0) (first | ((go_at_call 32); refine (pReadW (kpJ 0) (kdJ 0) [a1] l p _ n c m _ base base2 _ ((hV.ext E0).ext (Ext.refl _).drew) (h.ext CeR.ok (E0.trans (Ext.refl _).drew)) hn (tail_w (hS.ext okStr (E0.trans (Ext.refl _).drew)) hd) hm (fun y hy => hws y (List.mem_cons_of_mem _ hy)) kpJ_size0 (by decide) kpB0 kpT0).mono ?_; rw [hrw, hvs.out]; rintro e w7 ⟨q3, n3, d3, rfl, hv, E7⟩; replace hv := hid hv; generalize (ite (d = 1) _ _) = q9))
  replace E7 := (Ext.refl _).drew.trans E7
  clear g0 l0 y2 hb2 x0
  have g0 := (b0.out.ext E7).cells
  have l0 := (b0.out.ext E7).lt
  have y2 := (E7.cells _ _ hbk1.out).trans y1.out
  have hb2 := Nat.lt_of_lt_of_le hbk1.out E7.le
  obtain ⟨hn3, hv9⟩ := hv.out (by first | trivial | rfl)
  clear hv
  obtain rfl : n3 = 1 := hn3
  have hv : SlD (Fl enc1) 1 _ w7 q3 1 [V1] := hv9
  obtain ⟨bq, oq, hq3, hbq⟩ := slice_at hv (by omega)
  subst hq3
  have vH0 := hid (get_i hv (k := 0) rfl)
  have wH1 := hid ((E7.cells _ _ hbk1.out).trans ((E0.cells _ _ hbk).trans (get_s hS (k := 1) rfl)))
  have hbqH := hid hbq
  have hbH := hid hb2
  clear hv hbq
  have t8 := hid (there_blk (((Blk.new w7 (encEd zE) 39).alloc (.cells zC.toArray 72))))
  go_upto_region 10 with (first | (refine wpList_build rfl 39 #[] rfl [] rfl (encEd zE).toArray built_zE ?_) | (refine wpList_build rfl 72 #[] rfl [] rfl zC.toArray built_zC ?_) | (((with_reducible refine at_store ?_); refine wpList_store_mid rfl 39 (Operand.tmp 10) _ rfl (w7.heap.size) 0 (encEd zE).toArray rfl rfl t8.out (sz_Ed _) (one_Edit _) ?_); generalize hV8 : World.setCells _ _ _ _ = W8; obtain ⟨bo8, bc8, E8⟩ := two_new hV8; clear hV8; have t9 := hid (there_blk bc8)) | ((with_reducible refine at_store ?_); refine wpList_store_mid rfl 72 (Operand.tmp 11) _ rfl (w7.heap.size + 1) 0 zC.toArray rfl rfl t9.out sz_Ce one_zC ?_))
  generalize hV9 : World.setCells _ _ _ _ = W9
  have bO := hid (show Blk W9 w7.heap.size (encEd zE) 39 by rw [← hV9]; exact bo8.mut (Mut.setCells (S := [w7.heap.size + 1]) (by simp) _ _ _ (Mut.refl _ _)) (by simp))
  have bC := hid (show Blk W9 (w7.heap.size + 1) zC 72 by rw [← hV9]; exact bc8.setAll rfl)
  have E9 := hid (show Ext w7 W9 by rw [← hV9]; exact ext_setCells (Nat.le_succ _) _ _ _ E8)
  clear hV9 bo8 bc8 E8 t8 t9 g0 l0 y2 hb2
  have hbt := get_bt (kpJ 0)
  have hk0 : (0 : Int) < (kpJ 0).size := by rw [kpJ_size0]; decide
  have hk1 : 0 < (kpJ 0).size := by rw [kpJ_size0]; decide
  have hkb : bt (kpJ 0) 0 = 78 := (kpB0 0 4 rfl).2
  have hs := kw_0 hj
  have x0 := (E9.out.cells _ _ ((b0.out.ext E7).lt)).trans (((b0.out.ext E7).cells) 0)
  have l0 := Nat.lt_of_lt_of_le ((b0.out.ext E7).lt) E9.out.le
  simp only [List.getElem?_cons_zero] at x0
  have y2 := (E9.out.cells _ _ hbH.out).trans ((E7.cells _ _ hbk1.out).trans y1.out)
  have hb2 := Nat.lt_of_lt_of_le hbH.out E9.out.le
  have v0 := (E9.out.cells _ _ hbqH.out).trans vH0.out
  rw [Nat.add_zero] at v0
  have hbq := Nat.lt_of_lt_of_le hbqH.out E9.out.le
  have z1 := (E9.out.cells _ _ hbH.out).trans wH1.out
  have hi1 : (1 : Int) < (m : Int) + 1 := by have := hmr.out; omega
  have ne1 : b ≠ w7.heap.size := by have := hbH.out; omega
  have ne2 : bq ≠ w7.heap.size := by have := hbqH.out; omega
  have ne3 : w.heap.size ≠ w7.heap.size := by have := (b0.out.ext E7).lt; omega
  have ne4 : w7.heap.size + 1 ≠ w7.heap.size := by omega
  have bO2 := hid (show Blk W9 w7.heap.size [.int .i64 0, .int .i64 0, .int .i64 0, .string ⟨#[]⟩, .int .i64 0, .int .i64 0, .int .i64 0, .int .i64 0, .int .i64 0, .int .i64 0, .int .i64 0, .int .i64 0, .string ⟨#[]⟩, .int .i64 0, .int .i64 0, .int .i64 0, .int .i64 0, .int .i64 0, .int .i64 0, .int .i64 0, .int .i64 0] 39 from bO.out)
  have bC2 := hid (show Blk W9 (w7.heap.size + 1) [.string ⟨#[]⟩, .slice none 0 0, .slice none 0 0, .slice none 0 0] 72 from bC.out)
  clear bO bC
  have bO := bO2
  have bC := bC2
  clear bO2 bC2
  have gO : ∀ j, W9.cell? ⟨w7.heap.size, j, none⟩ = [.int .i64 0, .int .i64 0, .int .i64 0, .string ⟨#[]⟩, .int .i64 0, .int .i64 0, .int .i64 0, .int .i64 0, .int .i64 0, .int .i64 0, .int .i64 0, .int .i64 0, .string ⟨#[]⟩, .int .i64 0, .int .i64 0, .int .i64 0, .int .i64 0, .int .i64 0, .int .i64 0, .int .i64 0, .int .i64 0][j]? := bO.out.cells
  have fO := bO.out.free
  have lO := bO.out.lt
  have gC : ∀ j, W9.cell? ⟨w7.heap.size + 1, j, none⟩ = [.string ⟨#[]⟩, .slice none 0 0, .slice none 0 0, .slice none 0 0][j]? := bC.out.cells
  have fC := bC.out.free
  have lC := bC.out.lt
  go_upto_region 15 with (fail)
  go_region
  clear gO fO lO gC fC lC x0 l0 y2 hb2 hbq v0 z1
  have bO2 := Blk.drew (((bO.out.set 0 (.int .i64 8)).set 1 (.int .i64 (n : Int))).set 3 (.string a1))
  simp only [List.set_cons_zero, List.set_cons_succ] at bO2
  have bC2 := Blk.drew (((bC.out.other (B := w7.heap.size) 0 (.int .i64 8) (by omega)).other (B := w7.heap.size) 1 (.int .i64 (n : Int)) (by omega)).other (B := w7.heap.size) 3 (.string a1) (by omega))
  have E92 := Ext.drew (((E9.out.setCell (p := ⟨w7.heap.size, 0, none⟩) (Nat.le_refl _) (.int .i64 8)).setCell (p := ⟨w7.heap.size, 1, none⟩) (Nat.le_refl _) (.int .i64 (n : Int))).setCell (p := ⟨w7.heap.size, 3, none⟩) (Nat.le_refl _) (.string a1))
  generalize hV : World.drew _ = Wn1
  have bO3 := hid (show Blk Wn1 w7.heap.size [.int .i64 8, .int .i64 (n : Int), .int .i64 0, .string a1, .int .i64 0, .int .i64 0, .int .i64 0, .int .i64 0, .int .i64 0, .int .i64 0, .int .i64 0, .int .i64 0, .string ⟨#[]⟩, .int .i64 0, .int .i64 0, .int .i64 0, .int .i64 0, .int .i64 0, .int .i64 0, .int .i64 0, .int .i64 0] 39 from by rw [← hV]; exact bO2)
  have bC3 := hid (show Blk Wn1 (w7.heap.size + 1) [.string ⟨#[]⟩, .slice none 0 0, .slice none 0 0, .slice none 0 0] 72 from by rw [← hV]; exact bC2)
  have E93 := hid (show Ext w7 Wn1 from by rw [← hV]; exact E92)
  clear hV bO bC E9 bO2 bC2 E92
  have bO := bO3
  have bC := bC3
  have E9 := E93
  clear bO3 bC3 E93
  have x0 := (E9.out.cells _ _ ((b0.out.ext E7).lt)).trans (((b0.out.ext E7).cells) 0)
  have l0 := Nat.lt_of_lt_of_le ((b0.out.ext E7).lt) E9.out.le
  simp only [List.getElem?_cons_zero] at x0
  have y2 := (E9.out.cells _ _ hbH.out).trans ((E7.cells _ _ hbk1.out).trans y1.out)
  have hb2 := Nat.lt_of_lt_of_le hbH.out E9.out.le
  have v0 := (E9.out.cells _ _ hbqH.out).trans vH0.out
  rw [Nat.add_zero] at v0
  have hbq := Nat.lt_of_lt_of_le hbqH.out E9.out.le
  have z1 := (E9.out.cells _ _ hbH.out).trans wH1.out
  have gO : ∀ j, Wn1.cell? ⟨w7.heap.size, j, none⟩ = [.int .i64 8, .int .i64 (n : Int), .int .i64 0, .string a1, .int .i64 0, .int .i64 0, .int .i64 0, .int .i64 0, .int .i64 0, .int .i64 0, .int .i64 0, .int .i64 0, .string ⟨#[]⟩, .int .i64 0, .int .i64 0, .int .i64 0, .int .i64 0, .int .i64 0, .int .i64 0, .int .i64 0, .int .i64 0][j]? := bO.out.cells
  have fO := bO.out.free
  have lO := bO.out.lt
  have gC : ∀ j, Wn1.cell? ⟨w7.heap.size + 1, j, none⟩ = [.string ⟨#[]⟩, .slice none 0 0, .slice none 0 0, .slice none 0 0][j]? := bC.out.cells
  have fC := bC.out.free
  have lC := bC.out.lt
  clear gO fO lO gC fC lC x0 l0 y2 hb2 hbq v0 z1
  have bE := hid (show Blk Wn1 w7.heap.size (encEd ⟨8, (n : Int), 0, a1, zS, zL, zI⟩) 39 from bO.out)
  have rE := hid (range_blk bE.out)
  have hmk : Hid (mkE l 0 [a1] [V1] = ⟨8, (n : Int), 0, a1, zS, zL, zI⟩) := by show _ = _; (show (⟨8, (l.length : Int), 0, a1, zS, zL, zI⟩ : EdD) = _; rw [hl.out])
  have hcI : Hid (Calls Tryz.prog 33 #[.agg (encEd ⟨8, (n : Int), 0, a1, zS, zL, zI⟩).toArray] Wn1 fun e w' => e = .returned (.bool (edP ⟨8, (n : Int), 0, a1, zS, zL, zI⟩)) ∧ Ext Wn1 w') := hid (pEdit_any _ _ _ _ _ _ _ _ (by show a1.size ≤ _; have := hws a1 (by simp); omega) (by show (0 : Nat) ≤ 9223372036854775807; exact Nat.zero_le _))
  rw [← hvs.out] at hmk
  cases hP : edP ⟨8, (n : Int), 0, a1, zS, zL, zI⟩ with
  | true =>
    have hr := hid (edV_ok (l := l) hj hrw (by rw [hmk.out]; exact hP))
    rw [hmk.out] at hr
    rw [hP] at hcI
    clear hP
    go_wp2_with (first | (refine wpList_build rfl 39 #[] rfl [] rfl (encEd zE).toArray built_zE ?_) | ((with_reducible refine at_dst 193 ?_); refine wpList_load_mid rfl 39 (Operand.tmp 10) rfl (w7.heap.size) 0 rfl (encEd ⟨8, (n : Int), 0, a1, zS, zL, zI⟩) _ rE.out Tryz.underlying39 rfl (sz_Ed2 _) ?_) | (go_at_call 33; refine hcI.out.mono ?_; rintro e w8 ⟨rfl, E8⟩; have rE8 := hid (range_blk (bE.out.ext E8)); have r1 := hid (there_blk ((b1.out.ext E7).ext (E9.out.trans E8)))) | ((with_reducible refine at_dst 197 ?_); refine wpList_load_mid rfl 39 (Operand.tmp 10) rfl (w7.heap.size) 0 rfl (encEd ⟨8, (n : Int), 0, a1, zS, zL, zI⟩) _ rE8.out Tryz.underlying39 rfl (sz_Ed2 _) ?_) | ((with_reducible refine at_store ?_); refine wpList_store_mid rfl 39 (Operand.tmp 4) _ rfl (w.heap.size + 1) 0 (encEd ⟨8, (n : Int), 0, a1, zS, zL, zI⟩).toArray rfl rfl r1.out (sz_Ed _) (one_Edit _) ?_))
    generalize hV9 : World.setCells _ _ _ _ = W9
    have kB : Blk W9 (w.heap.size + 1) (encEd ⟨8, (n : Int), 0, a1, zS, zL, zI⟩) 39 := by rw [← hV9]; exact ((b1.out.ext E7).ext (E9.out.trans E8)).setAll (vs := encEd ⟨8, (n : Int), 0, a1, zS, zL, zI⟩) rfl
    have hE2 : Ext w W9 := by rw [← hV9]; exact ext_setCells (by omega) _ _ _ (E0.trans (E7.trans (E9.out.trans E8)))
    clear hV9
    exact bodyPost_ret (v := .tuple #[.agg (encEd ⟨8, (n : Int), 0, a1, zS, zL, zI⟩).toArray, .int .i64 0]) (results_cell_tmp Tryz.results17 _ _ (w.heap.size + 1) 39 (encEd ⟨8, (n : Int), 0, a1, zS, zL, zI⟩).toArray (0, 0) _ rfl kB Tryz.underlying39 rfl (sz_Ed _)) rfl ⟨by rw [hr.out], hE2⟩
  | false =>
    have hr := hid (edV_inv (l := l) hj hrw (by rw [hmk.out]; exact hP))
    rw [hP] at hcI
    clear hP
    go_wp2_with (first | (refine wpList_build rfl 39 #[] rfl [] rfl (encEd zE).toArray built_zE ?_) | ((with_reducible refine at_dst 193 ?_); refine wpList_load_mid rfl 39 (Operand.tmp 10) rfl (w7.heap.size) 0 rfl (encEd ⟨8, (n : Int), 0, a1, zS, zL, zI⟩) _ rE.out Tryz.underlying39 rfl (sz_Ed2 _) ?_) | (go_at_call 33; refine hcI.out.mono ?_; rintro e w8 ⟨rfl, E8⟩; have r1 := hid (there_blk ((b1.out.ext E7).ext (E9.out.trans E8)))) | ((with_reducible refine at_store ?_); refine wpList_store_mid rfl 39 (Operand.tmp 4) _ rfl (w.heap.size + 1) 0 (encEd zE).toArray rfl rfl r1.out (sz_Ed _) (one_Edit _) ?_))
    generalize hV9 : World.setCells _ _ _ _ = W9
    have kB : Blk W9 (w.heap.size + 1) (encEd zE) 39 := by rw [← hV9]; exact ((b1.out.ext E7).ext (E9.out.trans E8)).setAll (vs := encEd zE) rfl
    have hE2 : Ext w W9 := by rw [← hV9]; exact ext_setCells (by omega) _ _ _ (E0.trans (E7.trans (E9.out.trans E8)))
    clear hV9
    exact bodyPost_ret (v := .tuple #[.agg (encEd zE).toArray, .int .i64 1]) (results_cell_tmp Tryz.results17 _ _ (w.heap.size + 1) 39 (encEd zE).toArray (0, 0) _ rfl kB Tryz.underlying39 rfl (sz_Ed _)) rfl ⟨by rw [hr.out], hE2⟩

set_option maxRecDepth 100000 in
set_option maxHeartbeats 4000000 in
theorem pEditOf_good1 (s : ByteArray) (ws : List ByteArray) (l : List CeD) (p q : Option Addr) (n c m d base base2 : Nat) (w : World) (hV : Vrs w) (h : SlD CeR 4 base w p n l) (hn : n ≤ 1048576) (hS : SlD (Fl encW) 1 base2 w q (m + 1) (s :: ws)) (hm : m ≤ 1048576) (hd : m + 1 ≤ d) (hws : ∀ y ∈ s :: ws, y.size ≤ 1048576) (hj : kwX s = some 1) (hrw : rwV l (kdJ 1) ws = 0) :
    Calls Tryz.prog 17 #[.agg #[.slice p n c], .slice q (m + 1) d] w fun e w' => e = .returned (.tuple #[.agg (encEd (edV l (s :: ws)).1).toArray, .int .i64 (edV l (s :: ws)).2]) ∧ Ext w w' := by
  obtain ⟨hlen, hrf⟩ := rw_ok hrw
  have hlen2 : ws.length = 1 := hlen
  clear hlen
  obtain ⟨a1, ws1, rfl⟩ : ∃ a t, ws = a :: t := by
    cases ws with
    | nil => simp at hlen2
    | cons a t => exact ⟨a, t, rfl⟩
  obtain rfl : ws1 = [] := by
    cases ws1 with
    | nil => rfl
    | cons a t => simp at hlen2
  clear hlen2
  have hmr := hid (show m = 1 by have := hS.length; simp at this; omega)
  obtain ⟨kc, ce, hkc, hce⟩ := cell_at (rwF_head hrf).1
  have hV1 := hid hkc.symm
  clear hkc
  replace hce := hid hce
  have hvs : Hid (vsV l (kdJ 1) [a1] = [(kc : Int)]) := by
    show _ = _
    rw [hV1.out]
    rfl
  clear hrf
  have hl := hid h.length
  obtain ⟨b, off, y, hq, hbk, hx, y0⟩ := get_w hS (show 0 < m + 1 by omega)
  subst hq
  obtain rfl : s = y := by have := hx.out; simpa using this
  rw [Nat.add_zero] at y0
  clear hx
  have hm0 : (0 : Int) < ((m + 1 : Nat) : Int) := by omega
  have hm1 : ¬ (((m + 1 : Nat) : Int) = 0) := by omega
  have hm2 : (1 : Int) ≤ (m : Int) + 1 := by omega
  have hm3 : (1 : Int) ≤ ((m + 1 : Nat) : Int) := by omega
  go_enter Tryz.func17, Tryz.ntmps17
  go_upto_region 1 with (fail)
  generalize hW : World.alloc (World.alloc _ _) _ = W0
  obtain ⟨E0, z0, b0, b1⟩ := boxes2 hW
  clear hW z0
  replace b0 := hid (show Blk W0 (w.heap.size) [_] _ from b0)
  replace b1 := hid (show Blk W0 (w.heap.size + 1) (encEd zE) _ from b1)
  have g0 := b0.out.cells
  have l0 := b0.out.lt
  have E := Ext.refl W0
  have y1 := hid ((E0.cells _ _ hbk).trans y0)
  have hbk1 := hid (Nat.lt_of_lt_of_le hbk E0.le)
  have y2 := y1.out
  have hb2 := hbk1.out
  go_upto_region 6 with (go_at_call 31; refine (pKinds_1 s _ hj).mono ?_; rintro e w2 ⟨rfl, rfl⟩)
  have x0 := g0 0
  simp only [List.getElem?_cons_zero] at x0
  go_region_held3 (fun V => V.cell? ⟨w.heap.size, 0, none⟩ = some (.slice p n c)) (first | exact x0 | exact (E7.cells _ _ l0).trans x0) (first | ((go_at_call 32); refine (pReadW (kpJ 1) (kdJ 1) [a1] l p _ n c m _ base base2 _ ((hV.ext E0).ext (Ext.refl _).drew) (h.ext CeR.ok (E0.trans (Ext.refl _).drew)) hn (tail_w (hS.ext okStr (E0.trans (Ext.refl _).drew)) hd) hm (fun y hy => hws y (List.mem_cons_of_mem _ hy)) kpJ_size1 (by decide) kpB1 kpT1).mono ?_; rw [hrw, hvs.out]; rintro e w7 ⟨q3, n3, d3, rfl, hv, E7⟩; replace hv := hid hv; generalize (ite (d = 1) _ _) = q9))
  replace E7 := (Ext.refl _).drew.trans E7
  clear g0 l0 y2 hb2 x0
  have g0 := (b0.out.ext E7).cells
  have l0 := (b0.out.ext E7).lt
  have y2 := (E7.cells _ _ hbk1.out).trans y1.out
  have hb2 := Nat.lt_of_lt_of_le hbk1.out E7.le
  obtain ⟨hn3, hv9⟩ := hv.out (by first | trivial | rfl)
  clear hv
  obtain rfl : n3 = 1 := hn3
  have hv : SlD (Fl enc1) 1 _ w7 q3 1 [(kc : Int)] := hv9
  obtain ⟨bq, oq, hq3, hbq⟩ := slice_at hv (by omega)
  subst hq3
  have vH0 := hid (get_i hv (k := 0) rfl)
  have wH1 := hid ((E7.cells _ _ hbk1.out).trans ((E0.cells _ _ hbk).trans (get_s hS (k := 1) rfl)))
  have hbqH := hid hbq
  have hbH := hid hb2
  clear hv hbq
  have t8 := hid (there_blk (((Blk.new w7 (encEd zE) 39).alloc (.cells zC.toArray 72))))
  go_upto_region 10 with (first | (refine wpList_build rfl 39 #[] rfl [] rfl (encEd zE).toArray built_zE ?_) | (refine wpList_build rfl 72 #[] rfl [] rfl zC.toArray built_zC ?_) | (((with_reducible refine at_store ?_); refine wpList_store_mid rfl 39 (Operand.tmp 10) _ rfl (w7.heap.size) 0 (encEd zE).toArray rfl rfl t8.out (sz_Ed _) (one_Edit _) ?_); generalize hV8 : World.setCells _ _ _ _ = W8; obtain ⟨bo8, bc8, E8⟩ := two_new hV8; clear hV8; have t9 := hid (there_blk bc8)) | ((with_reducible refine at_store ?_); refine wpList_store_mid rfl 72 (Operand.tmp 11) _ rfl (w7.heap.size + 1) 0 zC.toArray rfl rfl t9.out sz_Ce one_zC ?_))
  generalize hV9 : World.setCells _ _ _ _ = W9
  have bO := hid (show Blk W9 w7.heap.size (encEd zE) 39 by rw [← hV9]; exact bo8.mut (Mut.setCells (S := [w7.heap.size + 1]) (by simp) _ _ _ (Mut.refl _ _)) (by simp))
  have bC := hid (show Blk W9 (w7.heap.size + 1) zC 72 by rw [← hV9]; exact bc8.setAll rfl)
  have E9 := hid (show Ext w7 W9 by rw [← hV9]; exact ext_setCells (Nat.le_succ _) _ _ _ E8)
  clear hV9 bo8 bc8 E8 t8 t9 g0 l0 y2 hb2
  have hbt := get_bt (kpJ 1)
  have hk0 : (0 : Int) < (kpJ 1).size := by rw [kpJ_size1]; decide
  have hk1 : 0 < (kpJ 1).size := by rw [kpJ_size1]; decide
  have hkb : bt (kpJ 1) 0 = 99 := (kpB1 0 0 rfl).2
  have hs := kw_1 hj
  have x0 := (E9.out.cells _ _ ((b0.out.ext E7).lt)).trans (((b0.out.ext E7).cells) 0)
  have l0 := Nat.lt_of_lt_of_le ((b0.out.ext E7).lt) E9.out.le
  simp only [List.getElem?_cons_zero] at x0
  have y2 := (E9.out.cells _ _ hbH.out).trans ((E7.cells _ _ hbk1.out).trans y1.out)
  have hb2 := Nat.lt_of_lt_of_le hbH.out E9.out.le
  have v0 := (E9.out.cells _ _ hbqH.out).trans vH0.out
  rw [Nat.add_zero] at v0
  have hbq := Nat.lt_of_lt_of_le hbqH.out E9.out.le
  have z1 := (E9.out.cells _ _ hbH.out).trans wH1.out
  have hi1 : (1 : Int) < (m : Int) + 1 := by have := hmr.out; omega
  have ne1 : b ≠ w7.heap.size := by have := hbH.out; omega
  have ne2 : bq ≠ w7.heap.size := by have := hbqH.out; omega
  have ne3 : w.heap.size ≠ w7.heap.size := by have := (b0.out.ext E7).lt; omega
  have ne4 : w7.heap.size + 1 ≠ w7.heap.size := by omega
  have bO2 := hid (show Blk W9 w7.heap.size [.int .i64 0, .int .i64 0, .int .i64 0, .string ⟨#[]⟩, .int .i64 0, .int .i64 0, .int .i64 0, .int .i64 0, .int .i64 0, .int .i64 0, .int .i64 0, .int .i64 0, .string ⟨#[]⟩, .int .i64 0, .int .i64 0, .int .i64 0, .int .i64 0, .int .i64 0, .int .i64 0, .int .i64 0, .int .i64 0] 39 from bO.out)
  have bC2 := hid (show Blk W9 (w7.heap.size + 1) [.string ⟨#[]⟩, .slice none 0 0, .slice none 0 0, .slice none 0 0] 72 from bC.out)
  clear bO bC
  have bO := bO2
  have bC := bC2
  clear bO2 bC2
  have gO : ∀ j, W9.cell? ⟨w7.heap.size, j, none⟩ = [.int .i64 0, .int .i64 0, .int .i64 0, .string ⟨#[]⟩, .int .i64 0, .int .i64 0, .int .i64 0, .int .i64 0, .int .i64 0, .int .i64 0, .int .i64 0, .int .i64 0, .string ⟨#[]⟩, .int .i64 0, .int .i64 0, .int .i64 0, .int .i64 0, .int .i64 0, .int .i64 0, .int .i64 0, .int .i64 0][j]? := bO.out.cells
  have fO := bO.out.free
  have lO := bO.out.lt
  have gC : ∀ j, W9.cell? ⟨w7.heap.size + 1, j, none⟩ = [.string ⟨#[]⟩, .slice none 0 0, .slice none 0 0, .slice none 0 0][j]? := bC.out.cells
  have fC := bC.out.free
  have lC := bC.out.lt
  go_upto_region 12 with (fail)
  clear gO fO lO gC fC lC x0 l0 y2 hb2 hbq v0 z1
  have bO2 := (bO.out.set 1 (.int .i64 (kc : Int)))
  simp only [List.set_cons_zero, List.set_cons_succ] at bO2
  have bC2 := (bC.out.other (B := w7.heap.size) 1 (.int .i64 (kc : Int)) (by omega))
  have E92 := (E9.out.setCell (p := ⟨w7.heap.size, 1, none⟩) (Nat.le_refl _) (.int .i64 (kc : Int)))
  generalize hV : World.setCell _ _ _ = Wn1
  have bO3 := hid (show Blk Wn1 w7.heap.size [.int .i64 0, .int .i64 (kc : Int), .int .i64 0, .string ⟨#[]⟩, .int .i64 0, .int .i64 0, .int .i64 0, .int .i64 0, .int .i64 0, .int .i64 0, .int .i64 0, .int .i64 0, .string ⟨#[]⟩, .int .i64 0, .int .i64 0, .int .i64 0, .int .i64 0, .int .i64 0, .int .i64 0, .int .i64 0, .int .i64 0] 39 from by rw [← hV]; exact bO2)
  have bC3 := hid (show Blk Wn1 (w7.heap.size + 1) [.string ⟨#[]⟩, .slice none 0 0, .slice none 0 0, .slice none 0 0] 72 from by rw [← hV]; exact bC2)
  have E93 := hid (show Ext w7 Wn1 from by rw [← hV]; exact E92)
  clear hV bO bC E9 bO2 bC2 E92
  have bO := bO3
  have bC := bC3
  have E9 := E93
  clear bO3 bC3 E93
  have x0 := (E9.out.cells _ _ ((b0.out.ext E7).lt)).trans (((b0.out.ext E7).cells) 0)
  have l0 := Nat.lt_of_lt_of_le ((b0.out.ext E7).lt) E9.out.le
  simp only [List.getElem?_cons_zero] at x0
  have y2 := (E9.out.cells _ _ hbH.out).trans ((E7.cells _ _ hbk1.out).trans y1.out)
  have hb2 := Nat.lt_of_lt_of_le hbH.out E9.out.le
  have v0 := (E9.out.cells _ _ hbqH.out).trans vH0.out
  rw [Nat.add_zero] at v0
  have hbq := Nat.lt_of_lt_of_le hbqH.out E9.out.le
  have z1 := (E9.out.cells _ _ hbH.out).trans wH1.out
  have gO : ∀ j, Wn1.cell? ⟨w7.heap.size, j, none⟩ = [.int .i64 0, .int .i64 (kc : Int), .int .i64 0, .string ⟨#[]⟩, .int .i64 0, .int .i64 0, .int .i64 0, .int .i64 0, .int .i64 0, .int .i64 0, .int .i64 0, .int .i64 0, .string ⟨#[]⟩, .int .i64 0, .int .i64 0, .int .i64 0, .int .i64 0, .int .i64 0, .int .i64 0, .int .i64 0, .int .i64 0][j]? := bO.out.cells
  have fO := bO.out.free
  have lO := bO.out.lt
  have gC : ∀ j, Wn1.cell? ⟨w7.heap.size + 1, j, none⟩ = [.string ⟨#[]⟩, .slice none 0 0, .slice none 0 0, .slice none 0 0][j]? := bC.out.cells
  have fC := bC.out.free
  have lC := bC.out.lt
  have hkn : kc < n := by have := (List.getElem?_eq_some_iff.1 hce.out).1; have := hl.out; omega
  have hknI : (kc : Int) < n := by omega
  obtain ⟨bl, ofl, ye, cs, hpl, hbl, hxl, hcs, hcl⟩ := (h.ext CeR.ok (E0.trans (E7.trans E9.out))).get hkn
  subst hpl
  obtain rfl : ce = ye := Option.some.inj (hce.out.symm.trans hxl.out)
  obtain ⟨p1, n1, c1, p2, n2, c2, p3, n3, c3, rfl, s1, s2, s3⟩ := hcs
  have c0 := hcl 0 _ rfl
  rw [Nat.add_zero] at c0
  have c10 := hcl 1 _ rfl
  have c20 := hcl 2 _ rfl
  have c30 := hcl 3 _ rfl
  have ln1 := hid s1.length
  have ln2 := hid s2.length
  have ln3 := hid s3.length
  clear hcl s1 s2 s3
  go_region
  clear c0 c10 c20 c30 hbl
  clear gO fO lO gC fC lC x0 l0 y2 hb2 hbq v0 z1
  have bO2 := Blk.drew ((((bO.out.other (B := w7.heap.size + 1) 0 (.string ce.s) (by omega)).other (B := w7.heap.size + 1) 1 (.slice p1 n1 c1) (by omega)).other (B := w7.heap.size + 1) 2 (.slice p2 n2 c2) (by omega)).other (B := w7.heap.size + 1) 3 (.slice p3 n3 c3) (by omega))
  have bC2 := Blk.drew ((((bC.out.set 0 (.string ce.s)).set 1 (.slice p1 n1 c1)).set 2 (.slice p2 n2 c2)).set 3 (.slice p3 n3 c3))
  simp only [List.set_cons_zero, List.set_cons_succ] at bC2
  have E92 := Ext.drew ((((E9.out.setCell (p := ⟨w7.heap.size + 1, 0, none⟩) (Nat.le_succ _) (.string ce.s)).setCell (p := ⟨w7.heap.size + 1, 1, none⟩) (Nat.le_succ _) (.slice p1 n1 c1)).setCell (p := ⟨w7.heap.size + 1, 2, none⟩) (Nat.le_succ _) (.slice p2 n2 c2)).setCell (p := ⟨w7.heap.size + 1, 3, none⟩) (Nat.le_succ _) (.slice p3 n3 c3))
  generalize hV : World.drew _ = Wn2
  have bO3 := hid (show Blk Wn2 w7.heap.size [.int .i64 0, .int .i64 (kc : Int), .int .i64 0, .string ⟨#[]⟩, .int .i64 0, .int .i64 0, .int .i64 0, .int .i64 0, .int .i64 0, .int .i64 0, .int .i64 0, .int .i64 0, .string ⟨#[]⟩, .int .i64 0, .int .i64 0, .int .i64 0, .int .i64 0, .int .i64 0, .int .i64 0, .int .i64 0, .int .i64 0] 39 from by rw [← hV]; exact bO2)
  have bC3 := hid (show Blk Wn2 (w7.heap.size + 1) [.string ce.s, .slice p1 n1 c1, .slice p2 n2 c2, .slice p3 n3 c3] 72 from by rw [← hV]; exact bC2)
  have E93 := hid (show Ext w7 Wn2 from by rw [← hV]; exact E92)
  clear hV bO bC E9 bO2 bC2 E92
  have bO := bO3
  have bC := bC3
  have E9 := E93
  clear bO3 bC3 E93
  have x0 := (E9.out.cells _ _ ((b0.out.ext E7).lt)).trans (((b0.out.ext E7).cells) 0)
  have l0 := Nat.lt_of_lt_of_le ((b0.out.ext E7).lt) E9.out.le
  simp only [List.getElem?_cons_zero] at x0
  have y2 := (E9.out.cells _ _ hbH.out).trans ((E7.cells _ _ hbk1.out).trans y1.out)
  have hb2 := Nat.lt_of_lt_of_le hbH.out E9.out.le
  have v0 := (E9.out.cells _ _ hbqH.out).trans vH0.out
  rw [Nat.add_zero] at v0
  have hbq := Nat.lt_of_lt_of_le hbqH.out E9.out.le
  have z1 := (E9.out.cells _ _ hbH.out).trans wH1.out
  have gO : ∀ j, Wn2.cell? ⟨w7.heap.size, j, none⟩ = [.int .i64 0, .int .i64 (kc : Int), .int .i64 0, .string ⟨#[]⟩, .int .i64 0, .int .i64 0, .int .i64 0, .int .i64 0, .int .i64 0, .int .i64 0, .int .i64 0, .int .i64 0, .string ⟨#[]⟩, .int .i64 0, .int .i64 0, .int .i64 0, .int .i64 0, .int .i64 0, .int .i64 0, .int .i64 0, .int .i64 0][j]? := bO.out.cells
  have fO := bO.out.free
  have lO := bO.out.lt
  have gC : ∀ j, Wn2.cell? ⟨w7.heap.size + 1, j, none⟩ = [.string ce.s, .slice p1 n1 c1, .slice p2 n2 c2, .slice p3 n3 c3][j]? := bC.out.cells
  have fC := bC.out.free
  have lC := bC.out.lt
  go_upto_region 38 with (fail)
  clear gO fO lO gC fC lC x0 l0 y2 hb2 hbq v0 z1
  have bO2 := (bO.out.set 0 (.int .i64 9))
  simp only [List.set_cons_zero, List.set_cons_succ] at bO2
  have bC2 := (bC.out.other (B := w7.heap.size) 0 (.int .i64 9) (by omega))
  have E92 := (E9.out.setCell (p := ⟨w7.heap.size, 0, none⟩) (Nat.le_refl _) (.int .i64 9))
  generalize hV : World.setCell _ _ _ = Wn3
  have bO3 := hid (show Blk Wn3 w7.heap.size [.int .i64 9, .int .i64 (kc : Int), .int .i64 0, .string ⟨#[]⟩, .int .i64 0, .int .i64 0, .int .i64 0, .int .i64 0, .int .i64 0, .int .i64 0, .int .i64 0, .int .i64 0, .string ⟨#[]⟩, .int .i64 0, .int .i64 0, .int .i64 0, .int .i64 0, .int .i64 0, .int .i64 0, .int .i64 0, .int .i64 0] 39 from by rw [← hV]; exact bO2)
  have bC3 := hid (show Blk Wn3 (w7.heap.size + 1) [.string ce.s, .slice p1 n1 c1, .slice p2 n2 c2, .slice p3 n3 c3] 72 from by rw [← hV]; exact bC2)
  have E93 := hid (show Ext w7 Wn3 from by rw [← hV]; exact E92)
  clear hV bO bC E9 bO2 bC2 E92
  have bO := bO3
  have bC := bC3
  have E9 := E93
  clear bO3 bC3 E93
  have x0 := (E9.out.cells _ _ ((b0.out.ext E7).lt)).trans (((b0.out.ext E7).cells) 0)
  have l0 := Nat.lt_of_lt_of_le ((b0.out.ext E7).lt) E9.out.le
  simp only [List.getElem?_cons_zero] at x0
  have y2 := (E9.out.cells _ _ hbH.out).trans ((E7.cells _ _ hbk1.out).trans y1.out)
  have hb2 := Nat.lt_of_lt_of_le hbH.out E9.out.le
  have v0 := (E9.out.cells _ _ hbqH.out).trans vH0.out
  rw [Nat.add_zero] at v0
  have hbq := Nat.lt_of_lt_of_le hbqH.out E9.out.le
  have z1 := (E9.out.cells _ _ hbH.out).trans wH1.out
  have gO : ∀ j, Wn3.cell? ⟨w7.heap.size, j, none⟩ = [.int .i64 9, .int .i64 (kc : Int), .int .i64 0, .string ⟨#[]⟩, .int .i64 0, .int .i64 0, .int .i64 0, .int .i64 0, .int .i64 0, .int .i64 0, .int .i64 0, .int .i64 0, .string ⟨#[]⟩, .int .i64 0, .int .i64 0, .int .i64 0, .int .i64 0, .int .i64 0, .int .i64 0, .int .i64 0, .int .i64 0][j]? := bO.out.cells
  have fO := bO.out.free
  have lO := bO.out.lt
  have gC : ∀ j, Wn3.cell? ⟨w7.heap.size + 1, j, none⟩ = [.string ce.s, .slice p1 n1 c1, .slice p2 n2 c2, .slice p3 n3 c3][j]? := bC.out.cells
  have fC := bC.out.free
  have lC := bC.out.lt
  clear gO fO lO gC fC lC x0 l0 y2 hb2 hbq v0 z1
  have bE := hid (show Blk Wn3 w7.heap.size (encEd ⟨9, (kc : Int), 0, emp, zS, zL, zI⟩) 39 from bO.out)
  have rE := hid (range_blk bE.out)
  have hmk : Hid (mkE l 1 [a1] [(kc : Int)] = ⟨9, (kc : Int), 0, emp, zS, zL, zI⟩) := by show _ = _; rfl
  have hcI : Hid (Calls Tryz.prog 33 #[.agg (encEd ⟨9, (kc : Int), 0, emp, zS, zL, zI⟩).toArray] Wn3 fun e w' => e = .returned (.bool (edP ⟨9, (kc : Int), 0, emp, zS, zL, zI⟩)) ∧ Ext Wn3 w') := hid (pEdit_any _ _ _ _ _ _ _ _ (by show (0 : Nat) ≤ 9223372036854775807; exact Nat.zero_le _) (by show (0 : Nat) ≤ 9223372036854775807; exact Nat.zero_le _))
  rw [← hvs.out] at hmk
  cases hP : edP ⟨9, (kc : Int), 0, emp, zS, zL, zI⟩ with
  | true =>
    have hr := hid (edV_ok (l := l) hj hrw (by rw [hmk.out]; exact hP))
    rw [hmk.out] at hr
    rw [hP] at hcI
    clear hP
    go_wp2_with (first | (refine wpList_build rfl 39 #[] rfl [] rfl (encEd zE).toArray built_zE ?_) | ((with_reducible refine at_dst 193 ?_); refine wpList_load_mid rfl 39 (Operand.tmp 10) rfl (w7.heap.size) 0 rfl (encEd ⟨9, (kc : Int), 0, emp, zS, zL, zI⟩) _ rE.out Tryz.underlying39 rfl (sz_Ed2 _) ?_) | (go_at_call 33; refine hcI.out.mono ?_; rintro e w8 ⟨rfl, E8⟩; have rE8 := hid (range_blk (bE.out.ext E8)); have r1 := hid (there_blk ((b1.out.ext E7).ext (E9.out.trans E8)))) | ((with_reducible refine at_dst 197 ?_); refine wpList_load_mid rfl 39 (Operand.tmp 10) rfl (w7.heap.size) 0 rfl (encEd ⟨9, (kc : Int), 0, emp, zS, zL, zI⟩) _ rE8.out Tryz.underlying39 rfl (sz_Ed2 _) ?_) | ((with_reducible refine at_store ?_); refine wpList_store_mid rfl 39 (Operand.tmp 4) _ rfl (w.heap.size + 1) 0 (encEd ⟨9, (kc : Int), 0, emp, zS, zL, zI⟩).toArray rfl rfl r1.out (sz_Ed _) (one_Edit _) ?_))
    generalize hV9 : World.setCells _ _ _ _ = W9
    have kB : Blk W9 (w.heap.size + 1) (encEd ⟨9, (kc : Int), 0, emp, zS, zL, zI⟩) 39 := by rw [← hV9]; exact ((b1.out.ext E7).ext (E9.out.trans E8)).setAll (vs := encEd ⟨9, (kc : Int), 0, emp, zS, zL, zI⟩) rfl
    have hE2 : Ext w W9 := by rw [← hV9]; exact ext_setCells (by omega) _ _ _ (E0.trans (E7.trans (E9.out.trans E8)))
    clear hV9
    exact bodyPost_ret (v := .tuple #[.agg (encEd ⟨9, (kc : Int), 0, emp, zS, zL, zI⟩).toArray, .int .i64 0]) (results_cell_tmp Tryz.results17 _ _ (w.heap.size + 1) 39 (encEd ⟨9, (kc : Int), 0, emp, zS, zL, zI⟩).toArray (0, 0) _ rfl kB Tryz.underlying39 rfl (sz_Ed _)) rfl ⟨by rw [hr.out], hE2⟩
  | false =>
    have hr := hid (edV_inv (l := l) hj hrw (by rw [hmk.out]; exact hP))
    rw [hP] at hcI
    clear hP
    go_wp2_with (first | (refine wpList_build rfl 39 #[] rfl [] rfl (encEd zE).toArray built_zE ?_) | ((with_reducible refine at_dst 193 ?_); refine wpList_load_mid rfl 39 (Operand.tmp 10) rfl (w7.heap.size) 0 rfl (encEd ⟨9, (kc : Int), 0, emp, zS, zL, zI⟩) _ rE.out Tryz.underlying39 rfl (sz_Ed2 _) ?_) | (go_at_call 33; refine hcI.out.mono ?_; rintro e w8 ⟨rfl, E8⟩; have r1 := hid (there_blk ((b1.out.ext E7).ext (E9.out.trans E8)))) | ((with_reducible refine at_store ?_); refine wpList_store_mid rfl 39 (Operand.tmp 4) _ rfl (w.heap.size + 1) 0 (encEd zE).toArray rfl rfl r1.out (sz_Ed _) (one_Edit _) ?_))
    generalize hV9 : World.setCells _ _ _ _ = W9
    have kB : Blk W9 (w.heap.size + 1) (encEd zE) 39 := by rw [← hV9]; exact ((b1.out.ext E7).ext (E9.out.trans E8)).setAll (vs := encEd zE) rfl
    have hE2 : Ext w W9 := by rw [← hV9]; exact ext_setCells (by omega) _ _ _ (E0.trans (E7.trans (E9.out.trans E8)))
    clear hV9
    exact bodyPost_ret (v := .tuple #[.agg (encEd zE).toArray, .int .i64 1]) (results_cell_tmp Tryz.results17 _ _ (w.heap.size + 1) 39 (encEd zE).toArray (0, 0) _ rfl kB Tryz.underlying39 rfl (sz_Ed _)) rfl ⟨by rw [hr.out], hE2⟩

set_option maxRecDepth 100000 in
set_option maxHeartbeats 4000000 in
theorem pEditOf_good2 (s : ByteArray) (ws : List ByteArray) (l : List CeD) (p q : Option Addr) (n c m d base base2 : Nat) (w : World) (hV : Vrs w) (h : SlD CeR 4 base w p n l) (hn : n ≤ 1048576) (hS : SlD (Fl encW) 1 base2 w q (m + 1) (s :: ws)) (hm : m ≤ 1048576) (hd : m + 1 ≤ d) (hws : ∀ y ∈ s :: ws, y.size ≤ 1048576) (hj : kwX s = some 2) (hrw : rwV l (kdJ 2) ws = 0) :
    Calls Tryz.prog 17 #[.agg #[.slice p n c], .slice q (m + 1) d] w fun e w' => e = .returned (.tuple #[.agg (encEd (edV l (s :: ws)).1).toArray, .int .i64 (edV l (s :: ws)).2]) ∧ Ext w w' := by
  obtain ⟨hlen, hrf⟩ := rw_ok hrw
  have hlen2 : ws.length = 2 := hlen
  clear hlen
  obtain ⟨a1, ws1, rfl⟩ : ∃ a t, ws = a :: t := by
    cases ws with
    | nil => simp at hlen2
    | cons a t => exact ⟨a, t, rfl⟩
  obtain ⟨a2, ws2, rfl⟩ : ∃ a t, ws1 = a :: t := by
    cases ws1 with
    | nil => simp at hlen2
    | cons a t => exact ⟨a, t, rfl⟩
  obtain rfl : ws2 = [] := by
    cases ws2 with
    | nil => rfl
    | cons a t => simp at hlen2
  clear hlen2
  have hmr := hid (show m = 2 by have := hS.length; simp at this; omega)
  obtain ⟨kc, ce, hkc, hce⟩ := cell_at (rwF_head hrf).1
  have hV1 := hid hkc.symm
  clear hkc
  replace hce := hid hce
  obtain ⟨V2, hV2⟩ : ∃ V, Hid (V = wN l 4 a2) := ⟨_, hid rfl⟩
  have hvs : Hid (vsV l (kdJ 2) [a1, a2] = [(kc : Int), V2]) := by
    show _ = _
    rw [hV1.out, hV2.out]
    rfl
  clear hrf
  have hl := hid h.length
  obtain ⟨b, off, y, hq, hbk, hx, y0⟩ := get_w hS (show 0 < m + 1 by omega)
  subst hq
  obtain rfl : s = y := by have := hx.out; simpa using this
  rw [Nat.add_zero] at y0
  clear hx
  have hm0 : (0 : Int) < ((m + 1 : Nat) : Int) := by omega
  have hm1 : ¬ (((m + 1 : Nat) : Int) = 0) := by omega
  have hm2 : (1 : Int) ≤ (m : Int) + 1 := by omega
  have hm3 : (1 : Int) ≤ ((m + 1 : Nat) : Int) := by omega
  go_enter Tryz.func17, Tryz.ntmps17
  go_upto_region 1 with (fail)
  generalize hW : World.alloc (World.alloc _ _) _ = W0
  obtain ⟨E0, z0, b0, b1⟩ := boxes2 hW
  clear hW z0
  replace b0 := hid (show Blk W0 (w.heap.size) [_] _ from b0)
  replace b1 := hid (show Blk W0 (w.heap.size + 1) (encEd zE) _ from b1)
  have g0 := b0.out.cells
  have l0 := b0.out.lt
  have E := Ext.refl W0
  have y1 := hid ((E0.cells _ _ hbk).trans y0)
  have hbk1 := hid (Nat.lt_of_lt_of_le hbk E0.le)
  have y2 := y1.out
  have hb2 := hbk1.out
  go_upto_region 6 with (go_at_call 31; refine (pKinds_2 s _ hj).mono ?_; rintro e w2 ⟨rfl, rfl⟩)
  have x0 := g0 0
  simp only [List.getElem?_cons_zero] at x0
  go_region_held3 (fun V => V.cell? ⟨w.heap.size, 0, none⟩ = some (.slice p n c)) (first | exact x0 | exact (E7.cells _ _ l0).trans x0) (first | ((go_at_call 32); refine (pReadW (kpJ 2) (kdJ 2) [a1, a2] l p _ n c m _ base base2 _ ((hV.ext E0).ext (Ext.refl _).drew) (h.ext CeR.ok (E0.trans (Ext.refl _).drew)) hn (tail_w (hS.ext okStr (E0.trans (Ext.refl _).drew)) hd) hm (fun y hy => hws y (List.mem_cons_of_mem _ hy)) kpJ_size2 (by decide) kpB2 kpT2).mono ?_; rw [hrw, hvs.out]; rintro e w7 ⟨q3, n3, d3, rfl, hv, E7⟩; replace hv := hid hv; generalize (ite (d = 1) _ _) = q9))
  replace E7 := (Ext.refl _).drew.trans E7
  clear g0 l0 y2 hb2 x0
  have g0 := (b0.out.ext E7).cells
  have l0 := (b0.out.ext E7).lt
  have y2 := (E7.cells _ _ hbk1.out).trans y1.out
  have hb2 := Nat.lt_of_lt_of_le hbk1.out E7.le
  obtain ⟨hn3, hv9⟩ := hv.out (by first | trivial | rfl)
  clear hv
  obtain rfl : n3 = 2 := hn3
  have hv : SlD (Fl enc1) 1 _ w7 q3 2 [(kc : Int), V2] := hv9
  obtain ⟨bq, oq, hq3, hbq⟩ := slice_at hv (by omega)
  subst hq3
  have vH0 := hid (get_i hv (k := 0) rfl)
  have vH1 := hid (get_i hv (k := 1) rfl)
  have wH1 := hid ((E7.cells _ _ hbk1.out).trans ((E0.cells _ _ hbk).trans (get_s hS (k := 1) rfl)))
  have wH2 := hid ((E7.cells _ _ hbk1.out).trans ((E0.cells _ _ hbk).trans (get_s hS (k := 2) rfl)))
  have hbqH := hid hbq
  have hbH := hid hb2
  clear hv hbq
  have t8 := hid (there_blk (((Blk.new w7 (encEd zE) 39).alloc (.cells zC.toArray 72))))
  go_upto_region 10 with (first | (refine wpList_build rfl 39 #[] rfl [] rfl (encEd zE).toArray built_zE ?_) | (refine wpList_build rfl 72 #[] rfl [] rfl zC.toArray built_zC ?_) | (((with_reducible refine at_store ?_); refine wpList_store_mid rfl 39 (Operand.tmp 10) _ rfl (w7.heap.size) 0 (encEd zE).toArray rfl rfl t8.out (sz_Ed _) (one_Edit _) ?_); generalize hV8 : World.setCells _ _ _ _ = W8; obtain ⟨bo8, bc8, E8⟩ := two_new hV8; clear hV8; have t9 := hid (there_blk bc8)) | ((with_reducible refine at_store ?_); refine wpList_store_mid rfl 72 (Operand.tmp 11) _ rfl (w7.heap.size + 1) 0 zC.toArray rfl rfl t9.out sz_Ce one_zC ?_))
  generalize hV9 : World.setCells _ _ _ _ = W9
  have bO := hid (show Blk W9 w7.heap.size (encEd zE) 39 by rw [← hV9]; exact bo8.mut (Mut.setCells (S := [w7.heap.size + 1]) (by simp) _ _ _ (Mut.refl _ _)) (by simp))
  have bC := hid (show Blk W9 (w7.heap.size + 1) zC 72 by rw [← hV9]; exact bc8.setAll rfl)
  have E9 := hid (show Ext w7 W9 by rw [← hV9]; exact ext_setCells (Nat.le_succ _) _ _ _ E8)
  clear hV9 bo8 bc8 E8 t8 t9 g0 l0 y2 hb2
  have hbt := get_bt (kpJ 2)
  have hk0 : (0 : Int) < (kpJ 2).size := by rw [kpJ_size2]; decide
  have hk1 : 0 < (kpJ 2).size := by rw [kpJ_size2]; decide
  have hkb : bt (kpJ 2) 0 = 99 := (kpB2 0 0 rfl).2
  have hs := kw_2 hj
  have x0 := (E9.out.cells _ _ ((b0.out.ext E7).lt)).trans (((b0.out.ext E7).cells) 0)
  have l0 := Nat.lt_of_lt_of_le ((b0.out.ext E7).lt) E9.out.le
  simp only [List.getElem?_cons_zero] at x0
  have y2 := (E9.out.cells _ _ hbH.out).trans ((E7.cells _ _ hbk1.out).trans y1.out)
  have hb2 := Nat.lt_of_lt_of_le hbH.out E9.out.le
  have v0 := (E9.out.cells _ _ hbqH.out).trans vH0.out
  have v1 := (E9.out.cells _ _ hbqH.out).trans vH1.out
  rw [Nat.add_zero] at v0
  have hbq := Nat.lt_of_lt_of_le hbqH.out E9.out.le
  have z1 := (E9.out.cells _ _ hbH.out).trans wH1.out
  have z2 := (E9.out.cells _ _ hbH.out).trans wH2.out
  have hi1 : (1 : Int) < (m : Int) + 1 := by have := hmr.out; omega
  have hi2 : (2 : Int) < (m : Int) + 1 := by have := hmr.out; omega
  have ne1 : b ≠ w7.heap.size := by have := hbH.out; omega
  have ne2 : bq ≠ w7.heap.size := by have := hbqH.out; omega
  have ne3 : w.heap.size ≠ w7.heap.size := by have := (b0.out.ext E7).lt; omega
  have ne4 : w7.heap.size + 1 ≠ w7.heap.size := by omega
  have bO2 := hid (show Blk W9 w7.heap.size [.int .i64 0, .int .i64 0, .int .i64 0, .string ⟨#[]⟩, .int .i64 0, .int .i64 0, .int .i64 0, .int .i64 0, .int .i64 0, .int .i64 0, .int .i64 0, .int .i64 0, .string ⟨#[]⟩, .int .i64 0, .int .i64 0, .int .i64 0, .int .i64 0, .int .i64 0, .int .i64 0, .int .i64 0, .int .i64 0] 39 from bO.out)
  have bC2 := hid (show Blk W9 (w7.heap.size + 1) [.string ⟨#[]⟩, .slice none 0 0, .slice none 0 0, .slice none 0 0] 72 from bC.out)
  clear bO bC
  have bO := bO2
  have bC := bC2
  clear bO2 bC2
  have gO : ∀ j, W9.cell? ⟨w7.heap.size, j, none⟩ = [.int .i64 0, .int .i64 0, .int .i64 0, .string ⟨#[]⟩, .int .i64 0, .int .i64 0, .int .i64 0, .int .i64 0, .int .i64 0, .int .i64 0, .int .i64 0, .int .i64 0, .string ⟨#[]⟩, .int .i64 0, .int .i64 0, .int .i64 0, .int .i64 0, .int .i64 0, .int .i64 0, .int .i64 0, .int .i64 0][j]? := bO.out.cells
  have fO := bO.out.free
  have lO := bO.out.lt
  have gC : ∀ j, W9.cell? ⟨w7.heap.size + 1, j, none⟩ = [.string ⟨#[]⟩, .slice none 0 0, .slice none 0 0, .slice none 0 0][j]? := bC.out.cells
  have fC := bC.out.free
  have lC := bC.out.lt
  go_upto_region 12 with (fail)
  clear gO fO lO gC fC lC x0 l0 y2 hb2 hbq v0 v1 z1 z2
  have bO2 := (bO.out.set 1 (.int .i64 (kc : Int)))
  simp only [List.set_cons_zero, List.set_cons_succ] at bO2
  have bC2 := (bC.out.other (B := w7.heap.size) 1 (.int .i64 (kc : Int)) (by omega))
  have E92 := (E9.out.setCell (p := ⟨w7.heap.size, 1, none⟩) (Nat.le_refl _) (.int .i64 (kc : Int)))
  generalize hV : World.setCell _ _ _ = Wn1
  have bO3 := hid (show Blk Wn1 w7.heap.size [.int .i64 0, .int .i64 (kc : Int), .int .i64 0, .string ⟨#[]⟩, .int .i64 0, .int .i64 0, .int .i64 0, .int .i64 0, .int .i64 0, .int .i64 0, .int .i64 0, .int .i64 0, .string ⟨#[]⟩, .int .i64 0, .int .i64 0, .int .i64 0, .int .i64 0, .int .i64 0, .int .i64 0, .int .i64 0, .int .i64 0] 39 from by rw [← hV]; exact bO2)
  have bC3 := hid (show Blk Wn1 (w7.heap.size + 1) [.string ⟨#[]⟩, .slice none 0 0, .slice none 0 0, .slice none 0 0] 72 from by rw [← hV]; exact bC2)
  have E93 := hid (show Ext w7 Wn1 from by rw [← hV]; exact E92)
  clear hV bO bC E9 bO2 bC2 E92
  have bO := bO3
  have bC := bC3
  have E9 := E93
  clear bO3 bC3 E93
  have x0 := (E9.out.cells _ _ ((b0.out.ext E7).lt)).trans (((b0.out.ext E7).cells) 0)
  have l0 := Nat.lt_of_lt_of_le ((b0.out.ext E7).lt) E9.out.le
  simp only [List.getElem?_cons_zero] at x0
  have y2 := (E9.out.cells _ _ hbH.out).trans ((E7.cells _ _ hbk1.out).trans y1.out)
  have hb2 := Nat.lt_of_lt_of_le hbH.out E9.out.le
  have v0 := (E9.out.cells _ _ hbqH.out).trans vH0.out
  have v1 := (E9.out.cells _ _ hbqH.out).trans vH1.out
  rw [Nat.add_zero] at v0
  have hbq := Nat.lt_of_lt_of_le hbqH.out E9.out.le
  have z1 := (E9.out.cells _ _ hbH.out).trans wH1.out
  have z2 := (E9.out.cells _ _ hbH.out).trans wH2.out
  have gO : ∀ j, Wn1.cell? ⟨w7.heap.size, j, none⟩ = [.int .i64 0, .int .i64 (kc : Int), .int .i64 0, .string ⟨#[]⟩, .int .i64 0, .int .i64 0, .int .i64 0, .int .i64 0, .int .i64 0, .int .i64 0, .int .i64 0, .int .i64 0, .string ⟨#[]⟩, .int .i64 0, .int .i64 0, .int .i64 0, .int .i64 0, .int .i64 0, .int .i64 0, .int .i64 0, .int .i64 0][j]? := bO.out.cells
  have fO := bO.out.free
  have lO := bO.out.lt
  have gC : ∀ j, Wn1.cell? ⟨w7.heap.size + 1, j, none⟩ = [.string ⟨#[]⟩, .slice none 0 0, .slice none 0 0, .slice none 0 0][j]? := bC.out.cells
  have fC := bC.out.free
  have lC := bC.out.lt
  have hkn : kc < n := by have := (List.getElem?_eq_some_iff.1 hce.out).1; have := hl.out; omega
  have hknI : (kc : Int) < n := by omega
  obtain ⟨bl, ofl, ye, cs, hpl, hbl, hxl, hcs, hcl⟩ := (h.ext CeR.ok (E0.trans (E7.trans E9.out))).get hkn
  subst hpl
  obtain rfl : ce = ye := Option.some.inj (hce.out.symm.trans hxl.out)
  obtain ⟨p1, n1, c1, p2, n2, c2, p3, n3, c3, rfl, s1, s2, s3⟩ := hcs
  have c0 := hcl 0 _ rfl
  rw [Nat.add_zero] at c0
  have c10 := hcl 1 _ rfl
  have c20 := hcl 2 _ rfl
  have c30 := hcl 3 _ rfl
  have ln1 := hid s1.length
  have ln2 := hid s2.length
  have ln3 := hid s3.length
  clear hcl s1 s2 s3
  go_region
  clear c0 c10 c20 c30 hbl
  clear gO fO lO gC fC lC x0 l0 y2 hb2 hbq v0 v1 z1 z2
  have bO2 := Blk.drew ((((bO.out.other (B := w7.heap.size + 1) 0 (.string ce.s) (by omega)).other (B := w7.heap.size + 1) 1 (.slice p1 n1 c1) (by omega)).other (B := w7.heap.size + 1) 2 (.slice p2 n2 c2) (by omega)).other (B := w7.heap.size + 1) 3 (.slice p3 n3 c3) (by omega))
  have bC2 := Blk.drew ((((bC.out.set 0 (.string ce.s)).set 1 (.slice p1 n1 c1)).set 2 (.slice p2 n2 c2)).set 3 (.slice p3 n3 c3))
  simp only [List.set_cons_zero, List.set_cons_succ] at bC2
  have E92 := Ext.drew ((((E9.out.setCell (p := ⟨w7.heap.size + 1, 0, none⟩) (Nat.le_succ _) (.string ce.s)).setCell (p := ⟨w7.heap.size + 1, 1, none⟩) (Nat.le_succ _) (.slice p1 n1 c1)).setCell (p := ⟨w7.heap.size + 1, 2, none⟩) (Nat.le_succ _) (.slice p2 n2 c2)).setCell (p := ⟨w7.heap.size + 1, 3, none⟩) (Nat.le_succ _) (.slice p3 n3 c3))
  generalize hV : World.drew _ = Wn2
  have bO3 := hid (show Blk Wn2 w7.heap.size [.int .i64 0, .int .i64 (kc : Int), .int .i64 0, .string ⟨#[]⟩, .int .i64 0, .int .i64 0, .int .i64 0, .int .i64 0, .int .i64 0, .int .i64 0, .int .i64 0, .int .i64 0, .string ⟨#[]⟩, .int .i64 0, .int .i64 0, .int .i64 0, .int .i64 0, .int .i64 0, .int .i64 0, .int .i64 0, .int .i64 0] 39 from by rw [← hV]; exact bO2)
  have bC3 := hid (show Blk Wn2 (w7.heap.size + 1) [.string ce.s, .slice p1 n1 c1, .slice p2 n2 c2, .slice p3 n3 c3] 72 from by rw [← hV]; exact bC2)
  have E93 := hid (show Ext w7 Wn2 from by rw [← hV]; exact E92)
  clear hV bO bC E9 bO2 bC2 E92
  have bO := bO3
  have bC := bC3
  have E9 := E93
  clear bO3 bC3 E93
  have x0 := (E9.out.cells _ _ ((b0.out.ext E7).lt)).trans (((b0.out.ext E7).cells) 0)
  have l0 := Nat.lt_of_lt_of_le ((b0.out.ext E7).lt) E9.out.le
  simp only [List.getElem?_cons_zero] at x0
  have y2 := (E9.out.cells _ _ hbH.out).trans ((E7.cells _ _ hbk1.out).trans y1.out)
  have hb2 := Nat.lt_of_lt_of_le hbH.out E9.out.le
  have v0 := (E9.out.cells _ _ hbqH.out).trans vH0.out
  have v1 := (E9.out.cells _ _ hbqH.out).trans vH1.out
  rw [Nat.add_zero] at v0
  have hbq := Nat.lt_of_lt_of_le hbqH.out E9.out.le
  have z1 := (E9.out.cells _ _ hbH.out).trans wH1.out
  have z2 := (E9.out.cells _ _ hbH.out).trans wH2.out
  have gO : ∀ j, Wn2.cell? ⟨w7.heap.size, j, none⟩ = [.int .i64 0, .int .i64 (kc : Int), .int .i64 0, .string ⟨#[]⟩, .int .i64 0, .int .i64 0, .int .i64 0, .int .i64 0, .int .i64 0, .int .i64 0, .int .i64 0, .int .i64 0, .string ⟨#[]⟩, .int .i64 0, .int .i64 0, .int .i64 0, .int .i64 0, .int .i64 0, .int .i64 0, .int .i64 0, .int .i64 0][j]? := bO.out.cells
  have fO := bO.out.free
  have lO := bO.out.lt
  have gC : ∀ j, Wn2.cell? ⟨w7.heap.size + 1, j, none⟩ = [.string ce.s, .slice p1 n1 c1, .slice p2 n2 c2, .slice p3 n3 c3][j]? := bC.out.cells
  have fC := bC.out.free
  have lC := bC.out.lt
  go_upto_region 19 with (fail)
  go_region
  clear gO fO lO gC fC lC x0 l0 y2 hb2 hbq v0 v1 z1 z2
  have bO2 := Blk.drew ((bO.out.set 0 (.int .i64 7)).set 3 (.string a2))
  simp only [List.set_cons_zero, List.set_cons_succ] at bO2
  have bC2 := Blk.drew ((bC.out.other (B := w7.heap.size) 0 (.int .i64 7) (by omega)).other (B := w7.heap.size) 3 (.string a2) (by omega))
  have E92 := Ext.drew ((E9.out.setCell (p := ⟨w7.heap.size, 0, none⟩) (Nat.le_refl _) (.int .i64 7)).setCell (p := ⟨w7.heap.size, 3, none⟩) (Nat.le_refl _) (.string a2))
  generalize hV : World.drew _ = Wn3
  have bO3 := hid (show Blk Wn3 w7.heap.size [.int .i64 7, .int .i64 (kc : Int), .int .i64 0, .string a2, .int .i64 0, .int .i64 0, .int .i64 0, .int .i64 0, .int .i64 0, .int .i64 0, .int .i64 0, .int .i64 0, .string ⟨#[]⟩, .int .i64 0, .int .i64 0, .int .i64 0, .int .i64 0, .int .i64 0, .int .i64 0, .int .i64 0, .int .i64 0] 39 from by rw [← hV]; exact bO2)
  have bC3 := hid (show Blk Wn3 (w7.heap.size + 1) [.string ce.s, .slice p1 n1 c1, .slice p2 n2 c2, .slice p3 n3 c3] 72 from by rw [← hV]; exact bC2)
  have E93 := hid (show Ext w7 Wn3 from by rw [← hV]; exact E92)
  clear hV bO bC E9 bO2 bC2 E92
  have bO := bO3
  have bC := bC3
  have E9 := E93
  clear bO3 bC3 E93
  have x0 := (E9.out.cells _ _ ((b0.out.ext E7).lt)).trans (((b0.out.ext E7).cells) 0)
  have l0 := Nat.lt_of_lt_of_le ((b0.out.ext E7).lt) E9.out.le
  simp only [List.getElem?_cons_zero] at x0
  have y2 := (E9.out.cells _ _ hbH.out).trans ((E7.cells _ _ hbk1.out).trans y1.out)
  have hb2 := Nat.lt_of_lt_of_le hbH.out E9.out.le
  have v0 := (E9.out.cells _ _ hbqH.out).trans vH0.out
  have v1 := (E9.out.cells _ _ hbqH.out).trans vH1.out
  rw [Nat.add_zero] at v0
  have hbq := Nat.lt_of_lt_of_le hbqH.out E9.out.le
  have z1 := (E9.out.cells _ _ hbH.out).trans wH1.out
  have z2 := (E9.out.cells _ _ hbH.out).trans wH2.out
  have gO : ∀ j, Wn3.cell? ⟨w7.heap.size, j, none⟩ = [.int .i64 7, .int .i64 (kc : Int), .int .i64 0, .string a2, .int .i64 0, .int .i64 0, .int .i64 0, .int .i64 0, .int .i64 0, .int .i64 0, .int .i64 0, .int .i64 0, .string ⟨#[]⟩, .int .i64 0, .int .i64 0, .int .i64 0, .int .i64 0, .int .i64 0, .int .i64 0, .int .i64 0, .int .i64 0][j]? := bO.out.cells
  have fO := bO.out.free
  have lO := bO.out.lt
  have gC : ∀ j, Wn3.cell? ⟨w7.heap.size + 1, j, none⟩ = [.string ce.s, .slice p1 n1 c1, .slice p2 n2 c2, .slice p3 n3 c3][j]? := bC.out.cells
  have fC := bC.out.free
  have lC := bC.out.lt
  clear gO fO lO gC fC lC x0 l0 y2 hb2 hbq v0 v1 z1 z2
  have bE := hid (show Blk Wn3 w7.heap.size (encEd ⟨7, (kc : Int), 0, a2, zS, zL, zI⟩) 39 from bO.out)
  have rE := hid (range_blk bE.out)
  have hmk : Hid (mkE l 2 [a1, a2] [(kc : Int), V2] = ⟨7, (kc : Int), 0, a2, zS, zL, zI⟩) := by show _ = _; rfl
  have hcI : Hid (Calls Tryz.prog 33 #[.agg (encEd ⟨7, (kc : Int), 0, a2, zS, zL, zI⟩).toArray] Wn3 fun e w' => e = .returned (.bool (edP ⟨7, (kc : Int), 0, a2, zS, zL, zI⟩)) ∧ Ext Wn3 w') := hid (pEdit_any _ _ _ _ _ _ _ _ (by show a2.size ≤ _; have := hws a2 (by simp); omega) (by show (0 : Nat) ≤ 9223372036854775807; exact Nat.zero_le _))
  rw [← hvs.out] at hmk
  cases hP : edP ⟨7, (kc : Int), 0, a2, zS, zL, zI⟩ with
  | true =>
    have hr := hid (edV_ok (l := l) hj hrw (by rw [hmk.out]; exact hP))
    rw [hmk.out] at hr
    rw [hP] at hcI
    clear hP
    go_wp2_with (first | (refine wpList_build rfl 39 #[] rfl [] rfl (encEd zE).toArray built_zE ?_) | ((with_reducible refine at_dst 193 ?_); refine wpList_load_mid rfl 39 (Operand.tmp 10) rfl (w7.heap.size) 0 rfl (encEd ⟨7, (kc : Int), 0, a2, zS, zL, zI⟩) _ rE.out Tryz.underlying39 rfl (sz_Ed2 _) ?_) | (go_at_call 33; refine hcI.out.mono ?_; rintro e w8 ⟨rfl, E8⟩; have rE8 := hid (range_blk (bE.out.ext E8)); have r1 := hid (there_blk ((b1.out.ext E7).ext (E9.out.trans E8)))) | ((with_reducible refine at_dst 197 ?_); refine wpList_load_mid rfl 39 (Operand.tmp 10) rfl (w7.heap.size) 0 rfl (encEd ⟨7, (kc : Int), 0, a2, zS, zL, zI⟩) _ rE8.out Tryz.underlying39 rfl (sz_Ed2 _) ?_) | ((with_reducible refine at_store ?_); refine wpList_store_mid rfl 39 (Operand.tmp 4) _ rfl (w.heap.size + 1) 0 (encEd ⟨7, (kc : Int), 0, a2, zS, zL, zI⟩).toArray rfl rfl r1.out (sz_Ed _) (one_Edit _) ?_))
    generalize hV9 : World.setCells _ _ _ _ = W9
    have kB : Blk W9 (w.heap.size + 1) (encEd ⟨7, (kc : Int), 0, a2, zS, zL, zI⟩) 39 := by rw [← hV9]; exact ((b1.out.ext E7).ext (E9.out.trans E8)).setAll (vs := encEd ⟨7, (kc : Int), 0, a2, zS, zL, zI⟩) rfl
    have hE2 : Ext w W9 := by rw [← hV9]; exact ext_setCells (by omega) _ _ _ (E0.trans (E7.trans (E9.out.trans E8)))
    clear hV9
    exact bodyPost_ret (v := .tuple #[.agg (encEd ⟨7, (kc : Int), 0, a2, zS, zL, zI⟩).toArray, .int .i64 0]) (results_cell_tmp Tryz.results17 _ _ (w.heap.size + 1) 39 (encEd ⟨7, (kc : Int), 0, a2, zS, zL, zI⟩).toArray (0, 0) _ rfl kB Tryz.underlying39 rfl (sz_Ed _)) rfl ⟨by rw [hr.out], hE2⟩
  | false =>
    have hr := hid (edV_inv (l := l) hj hrw (by rw [hmk.out]; exact hP))
    rw [hP] at hcI
    clear hP
    go_wp2_with (first | (refine wpList_build rfl 39 #[] rfl [] rfl (encEd zE).toArray built_zE ?_) | ((with_reducible refine at_dst 193 ?_); refine wpList_load_mid rfl 39 (Operand.tmp 10) rfl (w7.heap.size) 0 rfl (encEd ⟨7, (kc : Int), 0, a2, zS, zL, zI⟩) _ rE.out Tryz.underlying39 rfl (sz_Ed2 _) ?_) | (go_at_call 33; refine hcI.out.mono ?_; rintro e w8 ⟨rfl, E8⟩; have r1 := hid (there_blk ((b1.out.ext E7).ext (E9.out.trans E8)))) | ((with_reducible refine at_store ?_); refine wpList_store_mid rfl 39 (Operand.tmp 4) _ rfl (w.heap.size + 1) 0 (encEd zE).toArray rfl rfl r1.out (sz_Ed _) (one_Edit _) ?_))
    generalize hV9 : World.setCells _ _ _ _ = W9
    have kB : Blk W9 (w.heap.size + 1) (encEd zE) 39 := by rw [← hV9]; exact ((b1.out.ext E7).ext (E9.out.trans E8)).setAll (vs := encEd zE) rfl
    have hE2 : Ext w W9 := by rw [← hV9]; exact ext_setCells (by omega) _ _ _ (E0.trans (E7.trans (E9.out.trans E8)))
    clear hV9
    exact bodyPost_ret (v := .tuple #[.agg (encEd zE).toArray, .int .i64 1]) (results_cell_tmp Tryz.results17 _ _ (w.heap.size + 1) 39 (encEd zE).toArray (0, 0) _ rfl kB Tryz.underlying39 rfl (sz_Ed _)) rfl ⟨by rw [hr.out], hE2⟩

end Go.Proofs.YtncmhefendhinaaGreatDoor
