/- The edit of words and their numbers, of the reference. Condition: lengths that fit; the tables as they are laid; a valid library. -/
import Derived.Test.YtncmhefendhinaaGreatDoorVeo
import Derived.BigRegion
import Derived.Deep.RegionHeld3
import Derived.StillTailTactics
namespace Go.Proofs.YtncmhefendhinaaGreatDoor
open Go.RowKit Go.PlainAid
set_option linter.unusedVariables false
set_option linter.unusedSimpArgs false

theorem built_v (v : Int) : Tryz.prog.built 39 [(1, .int .i64 v)] = some (encEd ⟨0, v, 0, emp, zS, zL, zI⟩).toArray := by kernel_rfl
theorem built_n (v : Int) (s : ByteArray) : Tryz.prog.built 39 [(0, .int .i64 8), (1, .int .i64 v), (3, .string s)] = some (encEd ⟨8, v, 0, s, zS, zL, zI⟩).toArray := by kernel_rfl

set_option maxRecDepth 100000 in
set_option maxHeartbeats 4000000 in
theorem rEdit_0 (s : ByteArray) (a1 : ByteArray) (V1 : Int) (kc : Nat) (ce : CeD) (l : List CeD) (p : Option Addr) (b off bq oq : Nat) (n c m d d3 base base2 base3 : Nat) (w : World) (h : SlD CeR 4 base w p n l) (hn : n ≤ 1048576) (hS : SlD (Fl encW) 1 base2 w (some ⟨b, off, none⟩) (m + 1) [s, a1]) (hv : SlD (Fl enc1) 1 base3 w (some ⟨bq, oq, none⟩) 1 [V1]) (hj : kwX s = some 0) :
    Calls Tryz.prog 26 #[.agg #[.slice p n c], .slice (some ⟨b, off, none⟩) (m + 1) d, .slice (some ⟨bq, oq, none⟩) 1 d3] w fun e w' => e = .returned (.agg (encEd ⟨8, (n : Int), 0, a1, zS, zL, zI⟩).toArray) ∧ Ext w w' := by
  have hl := hid h.length
  have hmr := hid (show m = 1 by have := hS.length; simpa using this.symm)
  have hbw := hid (show b < w.heap.size by obtain ⟨b', o', h1, h2⟩ := slice_at hS (by omega); cases h1; exact h2)
  have hbqw := hid (show bq < w.heap.size by obtain ⟨b', o', h1, h2⟩ := slice_at hv (by omega); cases h1; exact h2)
  have hm0 : (0 : Int) < (m : Int) + 1 := by omega
  have hm9 : (0 : Int) < ((m + 1 : Nat) : Int) := by omega
  have hi1 : (1 : Int) < (m : Int) + 1 := by have := hmr.out; omega
  have hs := kw_0 hj
  go_enter Tryz.func26, Tryz.ntmps26
  go_upto_region 1 with (fail)
  generalize hW : World.alloc (World.alloc _ _) _ = W0
  obtain ⟨E0, z0, b0, b1⟩ := boxes2 hW
  clear hW z0
  replace b0 := hid (show Blk W0 (w.heap.size) [_] _ from b0)
  replace b1 := hid (show Blk W0 (w.heap.size + 1) (encEd zE) _ from b1)
  have hbH := hid (Nat.lt_of_lt_of_le hbw.out E0.le)
  have hbqH := hid (Nat.lt_of_lt_of_le hbqw.out E0.le)
  have vH0 := hid ((E0.cells _ _ hbqw.out).trans (get_i hv (k := 0) rfl))
  have wH0 := hid ((E0.cells _ _ hbw.out).trans (get_s hS (k := 0) rfl))
  have wH1 := hid ((E0.cells _ _ hbw.out).trans (get_s hS (k := 1) rfl))
  have ne1 : b ≠ W0.heap.size := by have := hbH.out; omega
  have ne2 : bq ≠ W0.heap.size := by have := hbqH.out; omega
  have ne3 : w.heap.size ≠ W0.heap.size := by have := b0.out.lt; omega
  have v0 := vH0.out
  rw [Nat.add_zero] at v0
  have hbq := hbqH.out
  clear hv
  go_upto_region 2 with (first | (refine wpList_build rfl 39 #[(1, .tmp 11)] rfl [(1, .int .i64 V1)] rfl (encEd ⟨0, V1, 0, emp, zS, zL, zI⟩).toArray (built_v _) ?_) | ((with_reducible refine at_store ?_); refine wpList_newEd rfl (Operand.tmp 7) (Operand.tmp 12) rfl ⟨0, V1, 0, emp, zS, zL, zI⟩ _ rfl rfl rfl ?_; intro W1 bO E9))
  clear v0 hbq
  replace bO := hid (show Blk W1 W0.heap.size [.int .i64 0, .int .i64 V1, .int .i64 0, .string ⟨#[]⟩, .int .i64 0, .int .i64 0, .int .i64 0, .int .i64 0, .int .i64 0, .int .i64 0, .int .i64 0, .int .i64 0, .string ⟨#[]⟩, .int .i64 0, .int .i64 0, .int .i64 0, .int .i64 0, .int .i64 0, .int .i64 0, .int .i64 0, .int .i64 0] 39 from bO)
  replace E9 := hid E9
  have x0 := (E9.out.cells _ _ b0.out.lt).trans (b0.out.cells 0)
  have l0 := Nat.lt_of_lt_of_le b0.out.lt E9.out.le
  simp only [List.getElem?_cons_zero] at x0
  have y2 := (E9.out.cells _ _ hbH.out).trans wH0.out
  have hb2 := Nat.lt_of_lt_of_le hbH.out E9.out.le
  rw [Nat.add_zero] at y2
  have v0 := (E9.out.cells _ _ hbqH.out).trans vH0.out
  rw [Nat.add_zero] at v0
  have hbq := Nat.lt_of_lt_of_le hbqH.out E9.out.le
  have z1 := (E9.out.cells _ _ hbH.out).trans wH1.out
  have gO : ∀ j, W1.cell? ⟨W0.heap.size, j, none⟩ = [.int .i64 0, .int .i64 V1, .int .i64 0, .string ⟨#[]⟩, .int .i64 0, .int .i64 0, .int .i64 0, .int .i64 0, .int .i64 0, .int .i64 0, .int .i64 0, .int .i64 0, .string ⟨#[]⟩, .int .i64 0, .int .i64 0, .int .i64 0, .int .i64 0, .int .i64 0, .int .i64 0, .int .i64 0, .int .i64 0][j]? := bO.out.cells
  have fO := bO.out.free
  have lO := bO.out.lt
  go_upto_region 4 with (fail)
  refine wp_region_still_tail 6 (by kernel_rfl) (by kernel_rfl) ?_
  simp only [List.take_succ_cons, List.take_zero, List.drop_succ_cons, List.drop_zero]
  iterate 6 still_step
  refine wpStill_nil ?_
  change wpList _ _ _ _ _ W1.drew
  clear gO fO lO x0 l0 y2 hb2 hbq v0 z1
  have r1 := hid (there_blk (b1.out.ext E9.out.drew))
  go_wp2_with (first | (refine wpList_build rfl 39 #[(0, .const (.int .i64 8)), (1, .tmp 20), (3, .tmp 23)] rfl [(0, .int .i64 8), (1, .int .i64 (n : Int)), (3, .string a1)] rfl (encEd ⟨8, (n : Int), 0, a1, zS, zL, zI⟩).toArray (built_n _ _) ?_) | ((with_reducible refine at_store ?_); refine wpList_store_mid rfl 39 (Operand.tmp 6) _ rfl (w.heap.size + 1) 0 (encEd ⟨8, (n : Int), 0, a1, zS, zL, zI⟩).toArray rfl rfl r1.out (sz_Ed _) (one_Edit _) ?_))
  generalize hV9 : World.setCells _ _ _ _ = W9
  have kB : Blk W9 (w.heap.size + 1) (encEd ⟨8, (n : Int), 0, a1, zS, zL, zI⟩) 39 := by rw [← hV9]; exact (b1.out.ext E9.out.drew).setAll (vs := encEd ⟨8, (n : Int), 0, a1, zS, zL, zI⟩) rfl
  have hE2 : Ext w W9 := by rw [← hV9]; exact ext_setCells (by omega) _ _ _ (E0.trans E9.out.drew)
  clear hV9
  exact bodyPost_ret (v := .agg (encEd ⟨8, (n : Int), 0, a1, zS, zL, zI⟩).toArray) (results_cell_row Tryz.results26 _ _ (w.heap.size + 1) 39 (encEd ⟨8, (n : Int), 0, a1, zS, zL, zI⟩).toArray (0, 0) _ rfl kB Tryz.underlying39 rfl (sz_Ed _)) rfl ⟨rfl, hE2⟩

set_option maxRecDepth 100000 in
set_option maxHeartbeats 4000000 in
theorem rEdit_1 (s : ByteArray) (a1 : ByteArray) (kc : Nat) (ce : CeD) (l : List CeD) (p : Option Addr) (b off bq oq : Nat) (n c m d d3 base base2 base3 : Nat) (w : World) (h : SlD CeR 4 base w p n l) (hn : n ≤ 1048576) (hS : SlD (Fl encW) 1 base2 w (some ⟨b, off, none⟩) (m + 1) [s, a1]) (hv : SlD (Fl enc1) 1 base3 w (some ⟨bq, oq, none⟩) 1 [(kc : Int)]) (hj : kwX s = some 1) :
    Calls Tryz.prog 26 #[.agg #[.slice p n c], .slice (some ⟨b, off, none⟩) (m + 1) d, .slice (some ⟨bq, oq, none⟩) 1 d3] w fun e w' => e = .returned (.agg (encEd ⟨9, (kc : Int), 0, emp, zS, zL, zI⟩).toArray) ∧ Ext w w' := by
  have hl := hid h.length
  have hmr := hid (show m = 1 by have := hS.length; simpa using this.symm)
  have hbw := hid (show b < w.heap.size by obtain ⟨b', o', h1, h2⟩ := slice_at hS (by omega); cases h1; exact h2)
  have hbqw := hid (show bq < w.heap.size by obtain ⟨b', o', h1, h2⟩ := slice_at hv (by omega); cases h1; exact h2)
  have hm0 : (0 : Int) < (m : Int) + 1 := by omega
  have hm9 : (0 : Int) < ((m + 1 : Nat) : Int) := by omega
  have hi1 : (1 : Int) < (m : Int) + 1 := by have := hmr.out; omega
  have hs := kw_1 hj
  go_enter Tryz.func26, Tryz.ntmps26
  go_upto_region 1 with (fail)
  generalize hW : World.alloc (World.alloc _ _) _ = W0
  obtain ⟨E0, z0, b0, b1⟩ := boxes2 hW
  clear hW z0
  replace b0 := hid (show Blk W0 (w.heap.size) [_] _ from b0)
  replace b1 := hid (show Blk W0 (w.heap.size + 1) (encEd zE) _ from b1)
  have hbH := hid (Nat.lt_of_lt_of_le hbw.out E0.le)
  have hbqH := hid (Nat.lt_of_lt_of_le hbqw.out E0.le)
  have vH0 := hid ((E0.cells _ _ hbqw.out).trans (get_i hv (k := 0) rfl))
  have wH0 := hid ((E0.cells _ _ hbw.out).trans (get_s hS (k := 0) rfl))
  have wH1 := hid ((E0.cells _ _ hbw.out).trans (get_s hS (k := 1) rfl))
  have ne1 : b ≠ W0.heap.size := by have := hbH.out; omega
  have ne2 : bq ≠ W0.heap.size := by have := hbqH.out; omega
  have ne3 : w.heap.size ≠ W0.heap.size := by have := b0.out.lt; omega
  have v0 := vH0.out
  rw [Nat.add_zero] at v0
  have hbq := hbqH.out
  clear hv
  go_upto_region 2 with (first | (refine wpList_build rfl 39 #[(1, .tmp 11)] rfl [(1, .int .i64 (kc : Int))] rfl (encEd ⟨0, (kc : Int), 0, emp, zS, zL, zI⟩).toArray (built_v _) ?_) | ((with_reducible refine at_store ?_); refine wpList_newEd rfl (Operand.tmp 7) (Operand.tmp 12) rfl ⟨0, (kc : Int), 0, emp, zS, zL, zI⟩ _ rfl rfl rfl ?_; intro W1 bO E9))
  clear v0 hbq
  replace bO := hid (show Blk W1 W0.heap.size [.int .i64 0, .int .i64 (kc : Int), .int .i64 0, .string ⟨#[]⟩, .int .i64 0, .int .i64 0, .int .i64 0, .int .i64 0, .int .i64 0, .int .i64 0, .int .i64 0, .int .i64 0, .string ⟨#[]⟩, .int .i64 0, .int .i64 0, .int .i64 0, .int .i64 0, .int .i64 0, .int .i64 0, .int .i64 0, .int .i64 0] 39 from bO)
  replace E9 := hid E9
  have x0 := (E9.out.cells _ _ b0.out.lt).trans (b0.out.cells 0)
  have l0 := Nat.lt_of_lt_of_le b0.out.lt E9.out.le
  simp only [List.getElem?_cons_zero] at x0
  have y2 := (E9.out.cells _ _ hbH.out).trans wH0.out
  have hb2 := Nat.lt_of_lt_of_le hbH.out E9.out.le
  rw [Nat.add_zero] at y2
  have v0 := (E9.out.cells _ _ hbqH.out).trans vH0.out
  rw [Nat.add_zero] at v0
  have hbq := Nat.lt_of_lt_of_le hbqH.out E9.out.le
  have z1 := (E9.out.cells _ _ hbH.out).trans wH1.out
  have gO : ∀ j, W1.cell? ⟨W0.heap.size, j, none⟩ = [.int .i64 0, .int .i64 (kc : Int), .int .i64 0, .string ⟨#[]⟩, .int .i64 0, .int .i64 0, .int .i64 0, .int .i64 0, .int .i64 0, .int .i64 0, .int .i64 0, .int .i64 0, .string ⟨#[]⟩, .int .i64 0, .int .i64 0, .int .i64 0, .int .i64 0, .int .i64 0, .int .i64 0, .int .i64 0, .int .i64 0][j]? := bO.out.cells
  have fO := bO.out.free
  have lO := bO.out.lt
  go_upto_region 7 with (fail)
  clear gO fO lO x0 l0 y2 hb2 hbq v0 z1
  have bO2 := (bO.out.set 0 (.int .i64 9))
  simp only [List.set_cons_zero, List.set_cons_succ] at bO2
  have E92 := (E9.out.setCell (p := ⟨W0.heap.size, 0, none⟩) (Nat.le_refl _) (.int .i64 9))
  generalize hV : World.setCell _ _ _ = Wn1
  have bO3 := hid (show Blk Wn1 W0.heap.size [.int .i64 9, .int .i64 (kc : Int), .int .i64 0, .string ⟨#[]⟩, .int .i64 0, .int .i64 0, .int .i64 0, .int .i64 0, .int .i64 0, .int .i64 0, .int .i64 0, .int .i64 0, .string ⟨#[]⟩, .int .i64 0, .int .i64 0, .int .i64 0, .int .i64 0, .int .i64 0, .int .i64 0, .int .i64 0, .int .i64 0] 39 from by rw [← hV]; exact bO2)
  have E93 := hid (show Ext W0 Wn1 from by rw [← hV]; exact E92)
  clear hV bO E9 bO2 E92
  have bO := bO3
  have E9 := E93
  clear bO3 E93
  have x0 := (E9.out.cells _ _ b0.out.lt).trans (b0.out.cells 0)
  have l0 := Nat.lt_of_lt_of_le b0.out.lt E9.out.le
  simp only [List.getElem?_cons_zero] at x0
  have y2 := (E9.out.cells _ _ hbH.out).trans wH0.out
  have hb2 := Nat.lt_of_lt_of_le hbH.out E9.out.le
  rw [Nat.add_zero] at y2
  have v0 := (E9.out.cells _ _ hbqH.out).trans vH0.out
  rw [Nat.add_zero] at v0
  have hbq := Nat.lt_of_lt_of_le hbqH.out E9.out.le
  have z1 := (E9.out.cells _ _ hbH.out).trans wH1.out
  have gO : ∀ j, Wn1.cell? ⟨W0.heap.size, j, none⟩ = [.int .i64 9, .int .i64 (kc : Int), .int .i64 0, .string ⟨#[]⟩, .int .i64 0, .int .i64 0, .int .i64 0, .int .i64 0, .int .i64 0, .int .i64 0, .int .i64 0, .int .i64 0, .string ⟨#[]⟩, .int .i64 0, .int .i64 0, .int .i64 0, .int .i64 0, .int .i64 0, .int .i64 0, .int .i64 0, .int .i64 0][j]? := bO.out.cells
  have fO := bO.out.free
  have lO := bO.out.lt
  clear gO fO lO x0 l0 y2 hb2 hbq v0 z1
  have bE := hid (show Blk Wn1 W0.heap.size (encEd ⟨9, (kc : Int), 0, emp, zS, zL, zI⟩) 39 from by exact bO.out)
  have rE := hid (range_blk bE.out)
  have r1 := hid (there_blk (b1.out.ext E9.out))
  go_wp2_with (first | ((with_reducible refine at_dst 28 ?_); refine wpList_load_mid rfl 39 (Operand.tmp 7) rfl (W0.heap.size) 0 rfl (encEd ⟨9, (kc : Int), 0, emp, zS, zL, zI⟩) _ rE.out Tryz.underlying39 rfl (sz_Ed2 _) ?_) | ((with_reducible refine at_store ?_); refine wpList_store_mid rfl 39 (Operand.tmp 6) _ rfl (w.heap.size + 1) 0 (encEd ⟨9, (kc : Int), 0, emp, zS, zL, zI⟩).toArray rfl rfl r1.out (sz_Ed _) (one_Edit _) ?_))
  generalize hV9 : World.setCells _ _ _ _ = W9
  have kB : Blk W9 (w.heap.size + 1) (encEd ⟨9, (kc : Int), 0, emp, zS, zL, zI⟩) 39 := by rw [← hV9]; exact (b1.out.ext E9.out).setAll (vs := encEd ⟨9, (kc : Int), 0, emp, zS, zL, zI⟩) rfl
  have hE2 : Ext w W9 := by rw [← hV9]; exact ext_setCells (by omega) _ _ _ (E0.trans E9.out)
  clear hV9
  exact bodyPost_ret (v := .agg (encEd ⟨9, (kc : Int), 0, emp, zS, zL, zI⟩).toArray) (results_cell_row Tryz.results26 _ _ (w.heap.size + 1) 39 (encEd ⟨9, (kc : Int), 0, emp, zS, zL, zI⟩).toArray (0, 0) _ rfl kB Tryz.underlying39 rfl (sz_Ed _)) rfl ⟨rfl, hE2⟩

set_option maxRecDepth 100000 in
set_option maxHeartbeats 4000000 in
theorem rEdit_2 (s : ByteArray) (a1 a2 : ByteArray) (V2 : Int) (kc : Nat) (ce : CeD) (l : List CeD) (p : Option Addr) (b off bq oq : Nat) (n c m d d3 base base2 base3 : Nat) (w : World) (h : SlD CeR 4 base w p n l) (hn : n ≤ 1048576) (hS : SlD (Fl encW) 1 base2 w (some ⟨b, off, none⟩) (m + 1) [s, a1, a2]) (hv : SlD (Fl enc1) 1 base3 w (some ⟨bq, oq, none⟩) 2 [(kc : Int), V2]) (hj : kwX s = some 2) :
    Calls Tryz.prog 26 #[.agg #[.slice p n c], .slice (some ⟨b, off, none⟩) (m + 1) d, .slice (some ⟨bq, oq, none⟩) 2 d3] w fun e w' => e = .returned (.agg (encEd ⟨7, (kc : Int), 0, a2, zS, zL, zI⟩).toArray) ∧ Ext w w' := by
  have hl := hid h.length
  have hmr := hid (show m = 2 by have := hS.length; simpa using this.symm)
  have hbw := hid (show b < w.heap.size by obtain ⟨b', o', h1, h2⟩ := slice_at hS (by omega); cases h1; exact h2)
  have hbqw := hid (show bq < w.heap.size by obtain ⟨b', o', h1, h2⟩ := slice_at hv (by omega); cases h1; exact h2)
  have hm0 : (0 : Int) < (m : Int) + 1 := by omega
  have hm9 : (0 : Int) < ((m + 1 : Nat) : Int) := by omega
  have hi1 : (1 : Int) < (m : Int) + 1 := by have := hmr.out; omega
  have hi2 : (2 : Int) < (m : Int) + 1 := by have := hmr.out; omega
  have hs := kw_2 hj
  go_enter Tryz.func26, Tryz.ntmps26
  go_upto_region 1 with (fail)
  generalize hW : World.alloc (World.alloc _ _) _ = W0
  obtain ⟨E0, z0, b0, b1⟩ := boxes2 hW
  clear hW z0
  replace b0 := hid (show Blk W0 (w.heap.size) [_] _ from b0)
  replace b1 := hid (show Blk W0 (w.heap.size + 1) (encEd zE) _ from b1)
  have hbH := hid (Nat.lt_of_lt_of_le hbw.out E0.le)
  have hbqH := hid (Nat.lt_of_lt_of_le hbqw.out E0.le)
  have vH0 := hid ((E0.cells _ _ hbqw.out).trans (get_i hv (k := 0) rfl))
  have vH1 := hid ((E0.cells _ _ hbqw.out).trans (get_i hv (k := 1) rfl))
  have wH0 := hid ((E0.cells _ _ hbw.out).trans (get_s hS (k := 0) rfl))
  have wH1 := hid ((E0.cells _ _ hbw.out).trans (get_s hS (k := 1) rfl))
  have wH2 := hid ((E0.cells _ _ hbw.out).trans (get_s hS (k := 2) rfl))
  have ne1 : b ≠ W0.heap.size := by have := hbH.out; omega
  have ne2 : bq ≠ W0.heap.size := by have := hbqH.out; omega
  have ne3 : w.heap.size ≠ W0.heap.size := by have := b0.out.lt; omega
  have v0 := vH0.out
  rw [Nat.add_zero] at v0
  have hbq := hbqH.out
  clear hv
  go_upto_region 2 with (first | (refine wpList_build rfl 39 #[(1, .tmp 11)] rfl [(1, .int .i64 (kc : Int))] rfl (encEd ⟨0, (kc : Int), 0, emp, zS, zL, zI⟩).toArray (built_v _) ?_) | ((with_reducible refine at_store ?_); refine wpList_newEd rfl (Operand.tmp 7) (Operand.tmp 12) rfl ⟨0, (kc : Int), 0, emp, zS, zL, zI⟩ _ rfl rfl rfl ?_; intro W1 bO E9))
  clear v0 hbq
  replace bO := hid (show Blk W1 W0.heap.size [.int .i64 0, .int .i64 (kc : Int), .int .i64 0, .string ⟨#[]⟩, .int .i64 0, .int .i64 0, .int .i64 0, .int .i64 0, .int .i64 0, .int .i64 0, .int .i64 0, .int .i64 0, .string ⟨#[]⟩, .int .i64 0, .int .i64 0, .int .i64 0, .int .i64 0, .int .i64 0, .int .i64 0, .int .i64 0, .int .i64 0] 39 from bO)
  replace E9 := hid E9
  have x0 := (E9.out.cells _ _ b0.out.lt).trans (b0.out.cells 0)
  have l0 := Nat.lt_of_lt_of_le b0.out.lt E9.out.le
  simp only [List.getElem?_cons_zero] at x0
  have y2 := (E9.out.cells _ _ hbH.out).trans wH0.out
  have hb2 := Nat.lt_of_lt_of_le hbH.out E9.out.le
  rw [Nat.add_zero] at y2
  have v0 := (E9.out.cells _ _ hbqH.out).trans vH0.out
  have v1 := (E9.out.cells _ _ hbqH.out).trans vH1.out
  rw [Nat.add_zero] at v0
  have hbq := Nat.lt_of_lt_of_le hbqH.out E9.out.le
  have z1 := (E9.out.cells _ _ hbH.out).trans wH1.out
  have z2 := (E9.out.cells _ _ hbH.out).trans wH2.out
  have gO : ∀ j, W1.cell? ⟨W0.heap.size, j, none⟩ = [.int .i64 0, .int .i64 (kc : Int), .int .i64 0, .string ⟨#[]⟩, .int .i64 0, .int .i64 0, .int .i64 0, .int .i64 0, .int .i64 0, .int .i64 0, .int .i64 0, .int .i64 0, .string ⟨#[]⟩, .int .i64 0, .int .i64 0, .int .i64 0, .int .i64 0, .int .i64 0, .int .i64 0, .int .i64 0, .int .i64 0][j]? := bO.out.cells
  have fO := bO.out.free
  have lO := bO.out.lt
  go_upto_region 10 with (fail)
  clear gO fO lO x0 l0 y2 hb2 hbq v0 v1 z1 z2
  have bO2 := (bO.out.set 0 (.int .i64 7))
  simp only [List.set_cons_zero, List.set_cons_succ] at bO2
  have E92 := (E9.out.setCell (p := ⟨W0.heap.size, 0, none⟩) (Nat.le_refl _) (.int .i64 7))
  generalize hV : World.setCell _ _ _ = Wn1
  have bO3 := hid (show Blk Wn1 W0.heap.size [.int .i64 7, .int .i64 (kc : Int), .int .i64 0, .string ⟨#[]⟩, .int .i64 0, .int .i64 0, .int .i64 0, .int .i64 0, .int .i64 0, .int .i64 0, .int .i64 0, .int .i64 0, .string ⟨#[]⟩, .int .i64 0, .int .i64 0, .int .i64 0, .int .i64 0, .int .i64 0, .int .i64 0, .int .i64 0, .int .i64 0] 39 from by rw [← hV]; exact bO2)
  have E93 := hid (show Ext W0 Wn1 from by rw [← hV]; exact E92)
  clear hV bO E9 bO2 E92
  have bO := bO3
  have E9 := E93
  clear bO3 E93
  have x0 := (E9.out.cells _ _ b0.out.lt).trans (b0.out.cells 0)
  have l0 := Nat.lt_of_lt_of_le b0.out.lt E9.out.le
  simp only [List.getElem?_cons_zero] at x0
  have y2 := (E9.out.cells _ _ hbH.out).trans wH0.out
  have hb2 := Nat.lt_of_lt_of_le hbH.out E9.out.le
  rw [Nat.add_zero] at y2
  have v0 := (E9.out.cells _ _ hbqH.out).trans vH0.out
  have v1 := (E9.out.cells _ _ hbqH.out).trans vH1.out
  rw [Nat.add_zero] at v0
  have hbq := Nat.lt_of_lt_of_le hbqH.out E9.out.le
  have z1 := (E9.out.cells _ _ hbH.out).trans wH1.out
  have z2 := (E9.out.cells _ _ hbH.out).trans wH2.out
  have gO : ∀ j, Wn1.cell? ⟨W0.heap.size, j, none⟩ = [.int .i64 7, .int .i64 (kc : Int), .int .i64 0, .string ⟨#[]⟩, .int .i64 0, .int .i64 0, .int .i64 0, .int .i64 0, .int .i64 0, .int .i64 0, .int .i64 0, .int .i64 0, .string ⟨#[]⟩, .int .i64 0, .int .i64 0, .int .i64 0, .int .i64 0, .int .i64 0, .int .i64 0, .int .i64 0, .int .i64 0][j]? := bO.out.cells
  have fO := bO.out.free
  have lO := bO.out.lt
  go_upto_region 11 with (fail)
  clear gO fO lO x0 l0 y2 hb2 hbq v0 v1 z1 z2
  have bO2 := (bO.out.set 3 (.string a2))
  simp only [List.set_cons_zero, List.set_cons_succ] at bO2
  have E92 := (E9.out.setCell (p := ⟨W0.heap.size, 3, none⟩) (Nat.le_refl _) (.string a2))
  generalize hV : World.setCell _ _ _ = Wn2
  have bO3 := hid (show Blk Wn2 W0.heap.size [.int .i64 7, .int .i64 (kc : Int), .int .i64 0, .string a2, .int .i64 0, .int .i64 0, .int .i64 0, .int .i64 0, .int .i64 0, .int .i64 0, .int .i64 0, .int .i64 0, .string ⟨#[]⟩, .int .i64 0, .int .i64 0, .int .i64 0, .int .i64 0, .int .i64 0, .int .i64 0, .int .i64 0, .int .i64 0] 39 from by rw [← hV]; exact bO2)
  have E93 := hid (show Ext W0 Wn2 from by rw [← hV]; exact E92)
  clear hV bO E9 bO2 E92
  have bO := bO3
  have E9 := E93
  clear bO3 E93
  have x0 := (E9.out.cells _ _ b0.out.lt).trans (b0.out.cells 0)
  have l0 := Nat.lt_of_lt_of_le b0.out.lt E9.out.le
  simp only [List.getElem?_cons_zero] at x0
  have y2 := (E9.out.cells _ _ hbH.out).trans wH0.out
  have hb2 := Nat.lt_of_lt_of_le hbH.out E9.out.le
  rw [Nat.add_zero] at y2
  have v0 := (E9.out.cells _ _ hbqH.out).trans vH0.out
  have v1 := (E9.out.cells _ _ hbqH.out).trans vH1.out
  rw [Nat.add_zero] at v0
  have hbq := Nat.lt_of_lt_of_le hbqH.out E9.out.le
  have z1 := (E9.out.cells _ _ hbH.out).trans wH1.out
  have z2 := (E9.out.cells _ _ hbH.out).trans wH2.out
  have gO : ∀ j, Wn2.cell? ⟨W0.heap.size, j, none⟩ = [.int .i64 7, .int .i64 (kc : Int), .int .i64 0, .string a2, .int .i64 0, .int .i64 0, .int .i64 0, .int .i64 0, .int .i64 0, .int .i64 0, .int .i64 0, .int .i64 0, .string ⟨#[]⟩, .int .i64 0, .int .i64 0, .int .i64 0, .int .i64 0, .int .i64 0, .int .i64 0, .int .i64 0, .int .i64 0][j]? := bO.out.cells
  have fO := bO.out.free
  have lO := bO.out.lt
  clear gO fO lO x0 l0 y2 hb2 hbq v0 v1 z1 z2
  have bE := hid (show Blk Wn2 W0.heap.size (encEd ⟨7, (kc : Int), 0, a2, zS, zL, zI⟩) 39 from by exact bO.out)
  have rE := hid (range_blk bE.out)
  have r1 := hid (there_blk (b1.out.ext E9.out))
  go_wp2_with (first | ((with_reducible refine at_dst 36 ?_); refine wpList_load_mid rfl 39 (Operand.tmp 7) rfl (W0.heap.size) 0 rfl (encEd ⟨7, (kc : Int), 0, a2, zS, zL, zI⟩) _ rE.out Tryz.underlying39 rfl (sz_Ed2 _) ?_) | ((with_reducible refine at_store ?_); refine wpList_store_mid rfl 39 (Operand.tmp 6) _ rfl (w.heap.size + 1) 0 (encEd ⟨7, (kc : Int), 0, a2, zS, zL, zI⟩).toArray rfl rfl r1.out (sz_Ed _) (one_Edit _) ?_))
  generalize hV9 : World.setCells _ _ _ _ = W9
  have kB : Blk W9 (w.heap.size + 1) (encEd ⟨7, (kc : Int), 0, a2, zS, zL, zI⟩) 39 := by rw [← hV9]; exact (b1.out.ext E9.out).setAll (vs := encEd ⟨7, (kc : Int), 0, a2, zS, zL, zI⟩) rfl
  have hE2 : Ext w W9 := by rw [← hV9]; exact ext_setCells (by omega) _ _ _ (E0.trans E9.out)
  clear hV9
  exact bodyPost_ret (v := .agg (encEd ⟨7, (kc : Int), 0, a2, zS, zL, zI⟩).toArray) (results_cell_row Tryz.results26 _ _ (w.heap.size + 1) 39 (encEd ⟨7, (kc : Int), 0, a2, zS, zL, zI⟩).toArray (0, 0) _ rfl kB Tryz.underlying39 rfl (sz_Ed _)) rfl ⟨rfl, hE2⟩

set_option maxRecDepth 100000 in
set_option maxHeartbeats 4000000 in
theorem rEdit_3 (s : ByteArray) (a1 a2 a3 a4 a5 a6 : ByteArray) (V2 V3 V4 V5 V6 : Int) (kc : Nat) (ce : CeD) (l : List CeD) (p : Option Addr) (b off bq oq : Nat) (n c m d d3 base base2 base3 : Nat) (w : World) (h : SlD CeR 4 base w p n l) (hn : n ≤ 1048576) (hS : SlD (Fl encW) 1 base2 w (some ⟨b, off, none⟩) (m + 1) [s, a1, a2, a3, a4, a5, a6]) (hv : SlD (Fl enc1) 1 base3 w (some ⟨bq, oq, none⟩) 6 [(kc : Int), V2, V3, V4, V5, V6]) (hj : kwX s = some 3) (hce : l[kc]? = some ce) :
    Calls Tryz.prog 26 #[.agg #[.slice p n c], .slice (some ⟨b, off, none⟩) (m + 1) d, .slice (some ⟨bq, oq, none⟩) 6 d3] w fun e w' => e = .returned (.agg (encEd ⟨1, (kc : Int), (ce.shs.length : Int), emp, ⟨V2, ⟨V3, V4, V5, V6⟩⟩, zL, zI⟩).toArray) ∧ Ext w w' := by
  have hl := hid h.length
  have hmr := hid (show m = 6 by have := hS.length; simpa using this.symm)
  have hbw := hid (show b < w.heap.size by obtain ⟨b', o', h1, h2⟩ := slice_at hS (by omega); cases h1; exact h2)
  have hbqw := hid (show bq < w.heap.size by obtain ⟨b', o', h1, h2⟩ := slice_at hv (by omega); cases h1; exact h2)
  have hm0 : (0 : Int) < (m : Int) + 1 := by omega
  have hm9 : (0 : Int) < ((m + 1 : Nat) : Int) := by omega
  have hi1 : (1 : Int) < (m : Int) + 1 := by have := hmr.out; omega
  have hi2 : (2 : Int) < (m : Int) + 1 := by have := hmr.out; omega
  have hi3 : (3 : Int) < (m : Int) + 1 := by have := hmr.out; omega
  have hi4 : (4 : Int) < (m : Int) + 1 := by have := hmr.out; omega
  have hi5 : (5 : Int) < (m : Int) + 1 := by have := hmr.out; omega
  have hi6 : (6 : Int) < (m : Int) + 1 := by have := hmr.out; omega
  have hs := kw_3 hj
  go_enter Tryz.func26, Tryz.ntmps26
  go_upto_region 1 with (fail)
  generalize hW : World.alloc (World.alloc _ _) _ = W0
  obtain ⟨E0, z0, b0, b1⟩ := boxes2 hW
  clear hW z0
  replace b0 := hid (show Blk W0 (w.heap.size) [_] _ from b0)
  replace b1 := hid (show Blk W0 (w.heap.size + 1) (encEd zE) _ from b1)
  have hbH := hid (Nat.lt_of_lt_of_le hbw.out E0.le)
  have hbqH := hid (Nat.lt_of_lt_of_le hbqw.out E0.le)
  have vH0 := hid ((E0.cells _ _ hbqw.out).trans (get_i hv (k := 0) rfl))
  have vH1 := hid ((E0.cells _ _ hbqw.out).trans (get_i hv (k := 1) rfl))
  have vH2 := hid ((E0.cells _ _ hbqw.out).trans (get_i hv (k := 2) rfl))
  have vH3 := hid ((E0.cells _ _ hbqw.out).trans (get_i hv (k := 3) rfl))
  have vH4 := hid ((E0.cells _ _ hbqw.out).trans (get_i hv (k := 4) rfl))
  have vH5 := hid ((E0.cells _ _ hbqw.out).trans (get_i hv (k := 5) rfl))
  have wH0 := hid ((E0.cells _ _ hbw.out).trans (get_s hS (k := 0) rfl))
  have wH1 := hid ((E0.cells _ _ hbw.out).trans (get_s hS (k := 1) rfl))
  have wH2 := hid ((E0.cells _ _ hbw.out).trans (get_s hS (k := 2) rfl))
  have wH3 := hid ((E0.cells _ _ hbw.out).trans (get_s hS (k := 3) rfl))
  have wH4 := hid ((E0.cells _ _ hbw.out).trans (get_s hS (k := 4) rfl))
  have wH5 := hid ((E0.cells _ _ hbw.out).trans (get_s hS (k := 5) rfl))
  have wH6 := hid ((E0.cells _ _ hbw.out).trans (get_s hS (k := 6) rfl))
  have ne1 : b ≠ W0.heap.size := by have := hbH.out; omega
  have ne2 : bq ≠ W0.heap.size := by have := hbqH.out; omega
  have ne3 : w.heap.size ≠ W0.heap.size := by have := b0.out.lt; omega
  have v0 := vH0.out
  rw [Nat.add_zero] at v0
  have hbq := hbqH.out
  clear hv
  go_upto_region 2 with (first | (refine wpList_build rfl 39 #[(1, .tmp 11)] rfl [(1, .int .i64 (kc : Int))] rfl (encEd ⟨0, (kc : Int), 0, emp, zS, zL, zI⟩).toArray (built_v _) ?_) | ((with_reducible refine at_store ?_); refine wpList_newEd rfl (Operand.tmp 7) (Operand.tmp 12) rfl ⟨0, (kc : Int), 0, emp, zS, zL, zI⟩ _ rfl rfl rfl ?_; intro W1 bO E9))
  clear v0 hbq
  replace bO := hid (show Blk W1 W0.heap.size [.int .i64 0, .int .i64 (kc : Int), .int .i64 0, .string ⟨#[]⟩, .int .i64 0, .int .i64 0, .int .i64 0, .int .i64 0, .int .i64 0, .int .i64 0, .int .i64 0, .int .i64 0, .string ⟨#[]⟩, .int .i64 0, .int .i64 0, .int .i64 0, .int .i64 0, .int .i64 0, .int .i64 0, .int .i64 0, .int .i64 0] 39 from bO)
  replace E9 := hid E9
  have x0 := (E9.out.cells _ _ b0.out.lt).trans (b0.out.cells 0)
  have l0 := Nat.lt_of_lt_of_le b0.out.lt E9.out.le
  simp only [List.getElem?_cons_zero] at x0
  have y2 := (E9.out.cells _ _ hbH.out).trans wH0.out
  have hb2 := Nat.lt_of_lt_of_le hbH.out E9.out.le
  rw [Nat.add_zero] at y2
  have v0 := (E9.out.cells _ _ hbqH.out).trans vH0.out
  have v1 := (E9.out.cells _ _ hbqH.out).trans vH1.out
  have v2 := (E9.out.cells _ _ hbqH.out).trans vH2.out
  have v3 := (E9.out.cells _ _ hbqH.out).trans vH3.out
  have v4 := (E9.out.cells _ _ hbqH.out).trans vH4.out
  have v5 := (E9.out.cells _ _ hbqH.out).trans vH5.out
  rw [Nat.add_zero] at v0
  have hbq := Nat.lt_of_lt_of_le hbqH.out E9.out.le
  have z1 := (E9.out.cells _ _ hbH.out).trans wH1.out
  have z2 := (E9.out.cells _ _ hbH.out).trans wH2.out
  have z3 := (E9.out.cells _ _ hbH.out).trans wH3.out
  have z4 := (E9.out.cells _ _ hbH.out).trans wH4.out
  have z5 := (E9.out.cells _ _ hbH.out).trans wH5.out
  have z6 := (E9.out.cells _ _ hbH.out).trans wH6.out
  have gO : ∀ j, W1.cell? ⟨W0.heap.size, j, none⟩ = [.int .i64 0, .int .i64 (kc : Int), .int .i64 0, .string ⟨#[]⟩, .int .i64 0, .int .i64 0, .int .i64 0, .int .i64 0, .int .i64 0, .int .i64 0, .int .i64 0, .int .i64 0, .string ⟨#[]⟩, .int .i64 0, .int .i64 0, .int .i64 0, .int .i64 0, .int .i64 0, .int .i64 0, .int .i64 0, .int .i64 0][j]? := bO.out.cells
  have fO := bO.out.free
  have lO := bO.out.lt
  go_upto_region 12 with (fail)
  have hkn : kc < n := by have := (List.getElem?_eq_some_iff.1 hce).1; have := hl.out; omega
  have hknI : (kc : Int) < n := by omega
  obtain ⟨bl, ofl, ye, cs, hpl, hbl, hxl, hcs, hcl⟩ := (h.ext CeR.ok (E0.trans E9.out)).get hkn
  subst hpl
  obtain rfl : ce = ye := Option.some.inj (hce.symm.trans hxl.out)
  obtain ⟨p1, n1, c1, p2, n2, c2, p3, n3, c3, rfl, s1, s2, s3⟩ := hcs
  have c0 := hcl 0 _ rfl
  rw [Nat.add_zero] at c0
  have c10 := hcl 1 _ rfl
  have c20 := hcl 2 _ rfl
  have c30 := hcl 3 _ rfl
  have ln1 := hid s1.length
  have ln2 := hid s2.length
  have ln3 := hid s3.length
  clear hcl s1 s2 s3 hce hxl
  go_region
  clear gO fO lO x0 l0 y2 hb2 hbq v0 v1 v2 v3 v4 v5 z1 z2 z3 z4 z5 z6
  clear c0 c10 c20 c30 hbl
  have bO2 := Blk.drew (bO.out.alloc (.cells [.string ce.s, .slice p1 n1 c1, .slice p2 n2 c2, .slice p3 n3 c3].toArray 72))
  have bC2 := Blk.drew (Blk.new W1 [.string ce.s, .slice p1 n1 c1, .slice p2 n2 c2, .slice p3 n3 c3] 72)
  have E92 := Ext.drew (E9.out.alloc (.cells [.string ce.s, .slice p1 n1 c1, .slice p2 n2 c2, .slice p3 n3 c3].toArray 72))
  have neC := hid (show W1.heap.size ≠ W0.heap.size by have := bO.out.lt; omega)
  generalize hV : World.drew _ = Wc
  have bO3 := hid (show Blk Wc W0.heap.size [.int .i64 0, .int .i64 (kc : Int), .int .i64 0, .string ⟨#[]⟩, .int .i64 0, .int .i64 0, .int .i64 0, .int .i64 0, .int .i64 0, .int .i64 0, .int .i64 0, .int .i64 0, .string ⟨#[]⟩, .int .i64 0, .int .i64 0, .int .i64 0, .int .i64 0, .int .i64 0, .int .i64 0, .int .i64 0, .int .i64 0] 39 from by rw [← hV]; exact bO2)
  have bC3 := hid (show Blk Wc W1.heap.size [.string ce.s, .slice p1 n1 c1, .slice p2 n2 c2, .slice p3 n3 c3] 72 from by rw [← hV]; exact bC2)
  have E93 := hid (show Ext W0 Wc from by rw [← hV]; exact E92)
  clear hV bO E9 bO2 bC2 E92
  have bO := bO3
  have E9 := E93
  have bC := bC3
  clear bO3 bC3 E93
  have ne5 : W1.heap.size ≠ W0.heap.size := neC.out
  have x0 := (E9.out.cells _ _ b0.out.lt).trans (b0.out.cells 0)
  have l0 := Nat.lt_of_lt_of_le b0.out.lt E9.out.le
  simp only [List.getElem?_cons_zero] at x0
  have y2 := (E9.out.cells _ _ hbH.out).trans wH0.out
  have hb2 := Nat.lt_of_lt_of_le hbH.out E9.out.le
  rw [Nat.add_zero] at y2
  have v0 := (E9.out.cells _ _ hbqH.out).trans vH0.out
  have v1 := (E9.out.cells _ _ hbqH.out).trans vH1.out
  have v2 := (E9.out.cells _ _ hbqH.out).trans vH2.out
  have v3 := (E9.out.cells _ _ hbqH.out).trans vH3.out
  have v4 := (E9.out.cells _ _ hbqH.out).trans vH4.out
  have v5 := (E9.out.cells _ _ hbqH.out).trans vH5.out
  rw [Nat.add_zero] at v0
  have hbq := Nat.lt_of_lt_of_le hbqH.out E9.out.le
  have z1 := (E9.out.cells _ _ hbH.out).trans wH1.out
  have z2 := (E9.out.cells _ _ hbH.out).trans wH2.out
  have z3 := (E9.out.cells _ _ hbH.out).trans wH3.out
  have z4 := (E9.out.cells _ _ hbH.out).trans wH4.out
  have z5 := (E9.out.cells _ _ hbH.out).trans wH5.out
  have z6 := (E9.out.cells _ _ hbH.out).trans wH6.out
  have gO : ∀ j, Wc.cell? ⟨W0.heap.size, j, none⟩ = [.int .i64 0, .int .i64 (kc : Int), .int .i64 0, .string ⟨#[]⟩, .int .i64 0, .int .i64 0, .int .i64 0, .int .i64 0, .int .i64 0, .int .i64 0, .int .i64 0, .int .i64 0, .string ⟨#[]⟩, .int .i64 0, .int .i64 0, .int .i64 0, .int .i64 0, .int .i64 0, .int .i64 0, .int .i64 0, .int .i64 0][j]? := bO.out.cells
  have fO := bO.out.free
  have lO := bO.out.lt
  have gC : ∀ j, Wc.cell? ⟨W1.heap.size, j, none⟩ = [.string ce.s, .slice p1 n1 c1, .slice p2 n2 c2, .slice p3 n3 c3][j]? := bC.out.cells
  have fC := bC.out.free
  have lC := bC.out.lt
  go_upto_region 18 with (fail)
  clear gO fO lO gC fC lC x0 l0 y2 hb2 hbq v0 v1 v2 v3 v4 v5 z1 z2 z3 z4 z5 z6
  have bO2 := (bO.out.set 0 (.int .i64 1))
  simp only [List.set_cons_zero, List.set_cons_succ] at bO2
  have bC2 := (bC.out.other (B := W0.heap.size) 0 (.int .i64 1) (by have := neC.out; omega))
  have E92 := (E9.out.setCell (p := ⟨W0.heap.size, 0, none⟩) (Nat.le_refl _) (.int .i64 1))
  generalize hV : World.setCell _ _ _ = Wn1
  have bO3 := hid (show Blk Wn1 W0.heap.size [.int .i64 1, .int .i64 (kc : Int), .int .i64 0, .string ⟨#[]⟩, .int .i64 0, .int .i64 0, .int .i64 0, .int .i64 0, .int .i64 0, .int .i64 0, .int .i64 0, .int .i64 0, .string ⟨#[]⟩, .int .i64 0, .int .i64 0, .int .i64 0, .int .i64 0, .int .i64 0, .int .i64 0, .int .i64 0, .int .i64 0] 39 from by rw [← hV]; exact bO2)
  have bC3 := hid (show Blk Wn1 (W1.heap.size) [.string ce.s, .slice p1 n1 c1, .slice p2 n2 c2, .slice p3 n3 c3] 72 from by rw [← hV]; exact bC2)
  have E93 := hid (show Ext W0 Wn1 from by rw [← hV]; exact E92)
  clear hV bO E9 bO2 E92 bC bC2
  have bO := bO3
  have E9 := E93
  clear bO3 E93
  have bC := bC3
  clear bC3
  have x0 := (E9.out.cells _ _ b0.out.lt).trans (b0.out.cells 0)
  have l0 := Nat.lt_of_lt_of_le b0.out.lt E9.out.le
  simp only [List.getElem?_cons_zero] at x0
  have y2 := (E9.out.cells _ _ hbH.out).trans wH0.out
  have hb2 := Nat.lt_of_lt_of_le hbH.out E9.out.le
  rw [Nat.add_zero] at y2
  have v0 := (E9.out.cells _ _ hbqH.out).trans vH0.out
  have v1 := (E9.out.cells _ _ hbqH.out).trans vH1.out
  have v2 := (E9.out.cells _ _ hbqH.out).trans vH2.out
  have v3 := (E9.out.cells _ _ hbqH.out).trans vH3.out
  have v4 := (E9.out.cells _ _ hbqH.out).trans vH4.out
  have v5 := (E9.out.cells _ _ hbqH.out).trans vH5.out
  rw [Nat.add_zero] at v0
  have hbq := Nat.lt_of_lt_of_le hbqH.out E9.out.le
  have z1 := (E9.out.cells _ _ hbH.out).trans wH1.out
  have z2 := (E9.out.cells _ _ hbH.out).trans wH2.out
  have z3 := (E9.out.cells _ _ hbH.out).trans wH3.out
  have z4 := (E9.out.cells _ _ hbH.out).trans wH4.out
  have z5 := (E9.out.cells _ _ hbH.out).trans wH5.out
  have z6 := (E9.out.cells _ _ hbH.out).trans wH6.out
  have gO : ∀ j, Wn1.cell? ⟨W0.heap.size, j, none⟩ = [.int .i64 1, .int .i64 (kc : Int), .int .i64 0, .string ⟨#[]⟩, .int .i64 0, .int .i64 0, .int .i64 0, .int .i64 0, .int .i64 0, .int .i64 0, .int .i64 0, .int .i64 0, .string ⟨#[]⟩, .int .i64 0, .int .i64 0, .int .i64 0, .int .i64 0, .int .i64 0, .int .i64 0, .int .i64 0, .int .i64 0][j]? := bO.out.cells
  have fO := bO.out.free
  have lO := bO.out.lt
  have gC : ∀ j, Wn1.cell? ⟨W1.heap.size, j, none⟩ = [.string ce.s, .slice p1 n1 c1, .slice p2 n2 c2, .slice p3 n3 c3][j]? := bC.out.cells
  have fC := bC.out.free
  have lC := bC.out.lt
  go_upto_region 19 with (fail)
  clear gO fO lO gC fC lC x0 l0 y2 hb2 hbq v0 v1 v2 v3 v4 v5 z1 z2 z3 z4 z5 z6
  have bO2 := (bO.out.set 2 (.int .i64 (n1 : Int)))
  simp only [List.set_cons_zero, List.set_cons_succ] at bO2
  have bC2 := (bC.out.other (B := W0.heap.size) 2 (.int .i64 (n1 : Int)) (by have := neC.out; omega))
  have E92 := (E9.out.setCell (p := ⟨W0.heap.size, 2, none⟩) (Nat.le_refl _) (.int .i64 (n1 : Int)))
  generalize hV : World.setCell _ _ _ = Wn2
  have bO3 := hid (show Blk Wn2 W0.heap.size [.int .i64 1, .int .i64 (kc : Int), .int .i64 (n1 : Int), .string ⟨#[]⟩, .int .i64 0, .int .i64 0, .int .i64 0, .int .i64 0, .int .i64 0, .int .i64 0, .int .i64 0, .int .i64 0, .string ⟨#[]⟩, .int .i64 0, .int .i64 0, .int .i64 0, .int .i64 0, .int .i64 0, .int .i64 0, .int .i64 0, .int .i64 0] 39 from by rw [← hV]; exact bO2)
  have bC3 := hid (show Blk Wn2 (W1.heap.size) [.string ce.s, .slice p1 n1 c1, .slice p2 n2 c2, .slice p3 n3 c3] 72 from by rw [← hV]; exact bC2)
  have E93 := hid (show Ext W0 Wn2 from by rw [← hV]; exact E92)
  clear hV bO E9 bO2 E92 bC bC2
  have bO := bO3
  have E9 := E93
  clear bO3 E93
  have bC := bC3
  clear bC3
  have x0 := (E9.out.cells _ _ b0.out.lt).trans (b0.out.cells 0)
  have l0 := Nat.lt_of_lt_of_le b0.out.lt E9.out.le
  simp only [List.getElem?_cons_zero] at x0
  have y2 := (E9.out.cells _ _ hbH.out).trans wH0.out
  have hb2 := Nat.lt_of_lt_of_le hbH.out E9.out.le
  rw [Nat.add_zero] at y2
  have v0 := (E9.out.cells _ _ hbqH.out).trans vH0.out
  have v1 := (E9.out.cells _ _ hbqH.out).trans vH1.out
  have v2 := (E9.out.cells _ _ hbqH.out).trans vH2.out
  have v3 := (E9.out.cells _ _ hbqH.out).trans vH3.out
  have v4 := (E9.out.cells _ _ hbqH.out).trans vH4.out
  have v5 := (E9.out.cells _ _ hbqH.out).trans vH5.out
  rw [Nat.add_zero] at v0
  have hbq := Nat.lt_of_lt_of_le hbqH.out E9.out.le
  have z1 := (E9.out.cells _ _ hbH.out).trans wH1.out
  have z2 := (E9.out.cells _ _ hbH.out).trans wH2.out
  have z3 := (E9.out.cells _ _ hbH.out).trans wH3.out
  have z4 := (E9.out.cells _ _ hbH.out).trans wH4.out
  have z5 := (E9.out.cells _ _ hbH.out).trans wH5.out
  have z6 := (E9.out.cells _ _ hbH.out).trans wH6.out
  have gO : ∀ j, Wn2.cell? ⟨W0.heap.size, j, none⟩ = [.int .i64 1, .int .i64 (kc : Int), .int .i64 (n1 : Int), .string ⟨#[]⟩, .int .i64 0, .int .i64 0, .int .i64 0, .int .i64 0, .int .i64 0, .int .i64 0, .int .i64 0, .int .i64 0, .string ⟨#[]⟩, .int .i64 0, .int .i64 0, .int .i64 0, .int .i64 0, .int .i64 0, .int .i64 0, .int .i64 0, .int .i64 0][j]? := bO.out.cells
  have fO := bO.out.free
  have lO := bO.out.lt
  have gC : ∀ j, Wn2.cell? ⟨W1.heap.size, j, none⟩ = [.string ce.s, .slice p1 n1 c1, .slice p2 n2 c2, .slice p3 n3 c3][j]? := bC.out.cells
  have fC := bC.out.free
  have lC := bC.out.lt
  go_upto_region 19 with (fail)
  refine wp_region_still_tail 18 (by kernel_rfl) (by kernel_rfl) ?_
  simp only [List.take_succ_cons, List.take_zero, List.drop_succ_cons, List.drop_zero]
  iterate 18 still_step
  refine wpStill_nil ?_
  change wpList _ _ _ _ _ Wn2.drew
  go_upto_region 40 with (fail)
  clear gO fO lO gC fC lC x0 l0 y2 hb2 hbq v0 v1 v2 v3 v4 v5 z1 z2 z3 z4 z5 z6
  have bO2 := Blk.drew (((((bO.out.set 4 (.int .i64 V2)).set 5 (.int .i64 V3)).set 6 (.int .i64 V4)).set 7 (.int .i64 V5)).set 8 (.int .i64 V6))
  simp only [List.set_cons_zero, List.set_cons_succ] at bO2
  have bC2 := Blk.drew (((((bC.out.other (B := W0.heap.size) 4 (.int .i64 V2) (by have := neC.out; omega)).other (B := W0.heap.size) 5 (.int .i64 V3) (by have := neC.out; omega)).other (B := W0.heap.size) 6 (.int .i64 V4) (by have := neC.out; omega)).other (B := W0.heap.size) 7 (.int .i64 V5) (by have := neC.out; omega)).other (B := W0.heap.size) 8 (.int .i64 V6) (by have := neC.out; omega))
  have E92 := Ext.drew (((((E9.out.setCell (p := ⟨W0.heap.size, 4, none⟩) (Nat.le_refl _) (.int .i64 V2)).setCell (p := ⟨W0.heap.size, 5, none⟩) (Nat.le_refl _) (.int .i64 V3)).setCell (p := ⟨W0.heap.size, 6, none⟩) (Nat.le_refl _) (.int .i64 V4)).setCell (p := ⟨W0.heap.size, 7, none⟩) (Nat.le_refl _) (.int .i64 V5)).setCell (p := ⟨W0.heap.size, 8, none⟩) (Nat.le_refl _) (.int .i64 V6))
  generalize hV : World.drew _ = Wn3
  have bO3 := hid (show Blk Wn3 W0.heap.size [.int .i64 1, .int .i64 (kc : Int), .int .i64 (n1 : Int), .string ⟨#[]⟩, .int .i64 V2, .int .i64 V3, .int .i64 V4, .int .i64 V5, .int .i64 V6, .int .i64 0, .int .i64 0, .int .i64 0, .string ⟨#[]⟩, .int .i64 0, .int .i64 0, .int .i64 0, .int .i64 0, .int .i64 0, .int .i64 0, .int .i64 0, .int .i64 0] 39 from by rw [← hV]; exact bO2)
  have bC3 := hid (show Blk Wn3 (W1.heap.size) [.string ce.s, .slice p1 n1 c1, .slice p2 n2 c2, .slice p3 n3 c3] 72 from by rw [← hV]; exact bC2)
  have E93 := hid (show Ext W0 Wn3 from by rw [← hV]; exact E92)
  clear hV bO E9 bO2 E92 bC bC2
  have bO := bO3
  have E9 := E93
  clear bO3 E93
  have bC := bC3
  clear bC3
  have x0 := (E9.out.cells _ _ b0.out.lt).trans (b0.out.cells 0)
  have l0 := Nat.lt_of_lt_of_le b0.out.lt E9.out.le
  simp only [List.getElem?_cons_zero] at x0
  have y2 := (E9.out.cells _ _ hbH.out).trans wH0.out
  have hb2 := Nat.lt_of_lt_of_le hbH.out E9.out.le
  rw [Nat.add_zero] at y2
  have v0 := (E9.out.cells _ _ hbqH.out).trans vH0.out
  have v1 := (E9.out.cells _ _ hbqH.out).trans vH1.out
  have v2 := (E9.out.cells _ _ hbqH.out).trans vH2.out
  have v3 := (E9.out.cells _ _ hbqH.out).trans vH3.out
  have v4 := (E9.out.cells _ _ hbqH.out).trans vH4.out
  have v5 := (E9.out.cells _ _ hbqH.out).trans vH5.out
  rw [Nat.add_zero] at v0
  have hbq := Nat.lt_of_lt_of_le hbqH.out E9.out.le
  have z1 := (E9.out.cells _ _ hbH.out).trans wH1.out
  have z2 := (E9.out.cells _ _ hbH.out).trans wH2.out
  have z3 := (E9.out.cells _ _ hbH.out).trans wH3.out
  have z4 := (E9.out.cells _ _ hbH.out).trans wH4.out
  have z5 := (E9.out.cells _ _ hbH.out).trans wH5.out
  have z6 := (E9.out.cells _ _ hbH.out).trans wH6.out
  have gO : ∀ j, Wn3.cell? ⟨W0.heap.size, j, none⟩ = [.int .i64 1, .int .i64 (kc : Int), .int .i64 (n1 : Int), .string ⟨#[]⟩, .int .i64 V2, .int .i64 V3, .int .i64 V4, .int .i64 V5, .int .i64 V6, .int .i64 0, .int .i64 0, .int .i64 0, .string ⟨#[]⟩, .int .i64 0, .int .i64 0, .int .i64 0, .int .i64 0, .int .i64 0, .int .i64 0, .int .i64 0, .int .i64 0][j]? := bO.out.cells
  have fO := bO.out.free
  have lO := bO.out.lt
  have gC : ∀ j, Wn3.cell? ⟨W1.heap.size, j, none⟩ = [.string ce.s, .slice p1 n1 c1, .slice p2 n2 c2, .slice p3 n3 c3][j]? := bC.out.cells
  have fC := bC.out.free
  have lC := bC.out.lt
  clear gO fO lO gC fC lC x0 l0 y2 hb2 hbq v0 v1 v2 v3 v4 v5 z1 z2 z3 z4 z5 z6
  have bE := hid (show Blk Wn3 W0.heap.size (encEd ⟨1, (kc : Int), (ce.shs.length : Int), emp, ⟨V2, ⟨V3, V4, V5, V6⟩⟩, zL, zI⟩) 39 from by rw [ln1.out]; exact bO.out)
  have rE := hid (range_blk bE.out)
  have r1 := hid (there_blk (b1.out.ext E9.out))
  go_wp2_with (first | ((with_reducible refine at_dst 160 ?_); refine wpList_load_mid rfl 39 (Operand.tmp 7) rfl (W0.heap.size) 0 rfl (encEd ⟨1, (kc : Int), (ce.shs.length : Int), emp, ⟨V2, ⟨V3, V4, V5, V6⟩⟩, zL, zI⟩) _ rE.out Tryz.underlying39 rfl (sz_Ed2 _) ?_) | ((with_reducible refine at_store ?_); refine wpList_store_mid rfl 39 (Operand.tmp 6) _ rfl (w.heap.size + 1) 0 (encEd ⟨1, (kc : Int), (ce.shs.length : Int), emp, ⟨V2, ⟨V3, V4, V5, V6⟩⟩, zL, zI⟩).toArray rfl rfl r1.out (sz_Ed _) (one_Edit _) ?_))
  generalize hV9 : World.setCells _ _ _ _ = W9
  have kB : Blk W9 (w.heap.size + 1) (encEd ⟨1, (kc : Int), (ce.shs.length : Int), emp, ⟨V2, ⟨V3, V4, V5, V6⟩⟩, zL, zI⟩) 39 := by rw [← hV9]; exact (b1.out.ext E9.out).setAll (vs := encEd ⟨1, (kc : Int), (ce.shs.length : Int), emp, ⟨V2, ⟨V3, V4, V5, V6⟩⟩, zL, zI⟩) rfl
  have hE2 : Ext w W9 := by rw [← hV9]; exact ext_setCells (by omega) _ _ _ (E0.trans E9.out)
  clear hV9
  exact bodyPost_ret (v := .agg (encEd ⟨1, (kc : Int), (ce.shs.length : Int), emp, ⟨V2, ⟨V3, V4, V5, V6⟩⟩, zL, zI⟩).toArray) (results_cell_row Tryz.results26 _ _ (w.heap.size + 1) 39 (encEd ⟨1, (kc : Int), (ce.shs.length : Int), emp, ⟨V2, ⟨V3, V4, V5, V6⟩⟩, zL, zI⟩).toArray (0, 0) _ rfl kB Tryz.underlying39 rfl (sz_Ed _)) rfl ⟨rfl, hE2⟩

set_option maxRecDepth 100000 in
set_option maxHeartbeats 4000000 in
theorem rEdit_4 (s : ByteArray) (a1 a2 a3 a4 a5 : ByteArray) (V2 V3 V4 V5 : Int) (kc : Nat) (ce : CeD) (l : List CeD) (p : Option Addr) (b off bq oq : Nat) (n c m d d3 base base2 base3 : Nat) (w : World) (h : SlD CeR 4 base w p n l) (hn : n ≤ 1048576) (hS : SlD (Fl encW) 1 base2 w (some ⟨b, off, none⟩) (m + 1) [s, a1, a2, a3, a4, a5]) (hv : SlD (Fl enc1) 1 base3 w (some ⟨bq, oq, none⟩) 5 [(kc : Int), V2, V3, V4, V5]) (hj : kwX s = some 4) (hce : l[kc]? = some ce) :
    Calls Tryz.prog 26 #[.agg #[.slice p n c], .slice (some ⟨b, off, none⟩) (m + 1) d, .slice (some ⟨bq, oq, none⟩) 5 d3] w fun e w' => e = .returned (.agg (encEd ⟨3, (kc : Int), (ce.lbs.length : Int), emp, zS, ⟨V2, ⟨V3, V4⟩, a5⟩, zI⟩).toArray) ∧ Ext w w' := by
  have hl := hid h.length
  have hmr := hid (show m = 5 by have := hS.length; simpa using this.symm)
  have hbw := hid (show b < w.heap.size by obtain ⟨b', o', h1, h2⟩ := slice_at hS (by omega); cases h1; exact h2)
  have hbqw := hid (show bq < w.heap.size by obtain ⟨b', o', h1, h2⟩ := slice_at hv (by omega); cases h1; exact h2)
  have hm0 : (0 : Int) < (m : Int) + 1 := by omega
  have hm9 : (0 : Int) < ((m + 1 : Nat) : Int) := by omega
  have hi1 : (1 : Int) < (m : Int) + 1 := by have := hmr.out; omega
  have hi2 : (2 : Int) < (m : Int) + 1 := by have := hmr.out; omega
  have hi3 : (3 : Int) < (m : Int) + 1 := by have := hmr.out; omega
  have hi4 : (4 : Int) < (m : Int) + 1 := by have := hmr.out; omega
  have hi5 : (5 : Int) < (m : Int) + 1 := by have := hmr.out; omega
  have hs := kw_4 hj
  go_enter Tryz.func26, Tryz.ntmps26
  go_upto_region 1 with (fail)
  generalize hW : World.alloc (World.alloc _ _) _ = W0
  obtain ⟨E0, z0, b0, b1⟩ := boxes2 hW
  clear hW z0
  replace b0 := hid (show Blk W0 (w.heap.size) [_] _ from b0)
  replace b1 := hid (show Blk W0 (w.heap.size + 1) (encEd zE) _ from b1)
  have hbH := hid (Nat.lt_of_lt_of_le hbw.out E0.le)
  have hbqH := hid (Nat.lt_of_lt_of_le hbqw.out E0.le)
  have vH0 := hid ((E0.cells _ _ hbqw.out).trans (get_i hv (k := 0) rfl))
  have vH1 := hid ((E0.cells _ _ hbqw.out).trans (get_i hv (k := 1) rfl))
  have vH2 := hid ((E0.cells _ _ hbqw.out).trans (get_i hv (k := 2) rfl))
  have vH3 := hid ((E0.cells _ _ hbqw.out).trans (get_i hv (k := 3) rfl))
  have vH4 := hid ((E0.cells _ _ hbqw.out).trans (get_i hv (k := 4) rfl))
  have wH0 := hid ((E0.cells _ _ hbw.out).trans (get_s hS (k := 0) rfl))
  have wH1 := hid ((E0.cells _ _ hbw.out).trans (get_s hS (k := 1) rfl))
  have wH2 := hid ((E0.cells _ _ hbw.out).trans (get_s hS (k := 2) rfl))
  have wH3 := hid ((E0.cells _ _ hbw.out).trans (get_s hS (k := 3) rfl))
  have wH4 := hid ((E0.cells _ _ hbw.out).trans (get_s hS (k := 4) rfl))
  have wH5 := hid ((E0.cells _ _ hbw.out).trans (get_s hS (k := 5) rfl))
  have ne1 : b ≠ W0.heap.size := by have := hbH.out; omega
  have ne2 : bq ≠ W0.heap.size := by have := hbqH.out; omega
  have ne3 : w.heap.size ≠ W0.heap.size := by have := b0.out.lt; omega
  have v0 := vH0.out
  rw [Nat.add_zero] at v0
  have hbq := hbqH.out
  clear hv
  go_upto_region 2 with (first | (refine wpList_build rfl 39 #[(1, .tmp 11)] rfl [(1, .int .i64 (kc : Int))] rfl (encEd ⟨0, (kc : Int), 0, emp, zS, zL, zI⟩).toArray (built_v _) ?_) | ((with_reducible refine at_store ?_); refine wpList_newEd rfl (Operand.tmp 7) (Operand.tmp 12) rfl ⟨0, (kc : Int), 0, emp, zS, zL, zI⟩ _ rfl rfl rfl ?_; intro W1 bO E9))
  clear v0 hbq
  replace bO := hid (show Blk W1 W0.heap.size [.int .i64 0, .int .i64 (kc : Int), .int .i64 0, .string ⟨#[]⟩, .int .i64 0, .int .i64 0, .int .i64 0, .int .i64 0, .int .i64 0, .int .i64 0, .int .i64 0, .int .i64 0, .string ⟨#[]⟩, .int .i64 0, .int .i64 0, .int .i64 0, .int .i64 0, .int .i64 0, .int .i64 0, .int .i64 0, .int .i64 0] 39 from bO)
  replace E9 := hid E9
  have x0 := (E9.out.cells _ _ b0.out.lt).trans (b0.out.cells 0)
  have l0 := Nat.lt_of_lt_of_le b0.out.lt E9.out.le
  simp only [List.getElem?_cons_zero] at x0
  have y2 := (E9.out.cells _ _ hbH.out).trans wH0.out
  have hb2 := Nat.lt_of_lt_of_le hbH.out E9.out.le
  rw [Nat.add_zero] at y2
  have v0 := (E9.out.cells _ _ hbqH.out).trans vH0.out
  have v1 := (E9.out.cells _ _ hbqH.out).trans vH1.out
  have v2 := (E9.out.cells _ _ hbqH.out).trans vH2.out
  have v3 := (E9.out.cells _ _ hbqH.out).trans vH3.out
  have v4 := (E9.out.cells _ _ hbqH.out).trans vH4.out
  rw [Nat.add_zero] at v0
  have hbq := Nat.lt_of_lt_of_le hbqH.out E9.out.le
  have z1 := (E9.out.cells _ _ hbH.out).trans wH1.out
  have z2 := (E9.out.cells _ _ hbH.out).trans wH2.out
  have z3 := (E9.out.cells _ _ hbH.out).trans wH3.out
  have z4 := (E9.out.cells _ _ hbH.out).trans wH4.out
  have z5 := (E9.out.cells _ _ hbH.out).trans wH5.out
  have gO : ∀ j, W1.cell? ⟨W0.heap.size, j, none⟩ = [.int .i64 0, .int .i64 (kc : Int), .int .i64 0, .string ⟨#[]⟩, .int .i64 0, .int .i64 0, .int .i64 0, .int .i64 0, .int .i64 0, .int .i64 0, .int .i64 0, .int .i64 0, .string ⟨#[]⟩, .int .i64 0, .int .i64 0, .int .i64 0, .int .i64 0, .int .i64 0, .int .i64 0, .int .i64 0, .int .i64 0][j]? := bO.out.cells
  have fO := bO.out.free
  have lO := bO.out.lt
  go_upto_region 12 with (fail)
  have hkn : kc < n := by have := (List.getElem?_eq_some_iff.1 hce).1; have := hl.out; omega
  have hknI : (kc : Int) < n := by omega
  obtain ⟨bl, ofl, ye, cs, hpl, hbl, hxl, hcs, hcl⟩ := (h.ext CeR.ok (E0.trans E9.out)).get hkn
  subst hpl
  obtain rfl : ce = ye := Option.some.inj (hce.symm.trans hxl.out)
  obtain ⟨p1, n1, c1, p2, n2, c2, p3, n3, c3, rfl, s1, s2, s3⟩ := hcs
  have c0 := hcl 0 _ rfl
  rw [Nat.add_zero] at c0
  have c10 := hcl 1 _ rfl
  have c20 := hcl 2 _ rfl
  have c30 := hcl 3 _ rfl
  have ln1 := hid s1.length
  have ln2 := hid s2.length
  have ln3 := hid s3.length
  clear hcl s1 s2 s3 hce hxl
  go_region
  clear gO fO lO x0 l0 y2 hb2 hbq v0 v1 v2 v3 v4 z1 z2 z3 z4 z5
  clear c0 c10 c20 c30 hbl
  have bO2 := Blk.drew (bO.out.alloc (.cells [.string ce.s, .slice p1 n1 c1, .slice p2 n2 c2, .slice p3 n3 c3].toArray 72))
  have bC2 := Blk.drew (Blk.new W1 [.string ce.s, .slice p1 n1 c1, .slice p2 n2 c2, .slice p3 n3 c3] 72)
  have E92 := Ext.drew (E9.out.alloc (.cells [.string ce.s, .slice p1 n1 c1, .slice p2 n2 c2, .slice p3 n3 c3].toArray 72))
  have neC := hid (show W1.heap.size ≠ W0.heap.size by have := bO.out.lt; omega)
  generalize hV : World.drew _ = Wc
  have bO3 := hid (show Blk Wc W0.heap.size [.int .i64 0, .int .i64 (kc : Int), .int .i64 0, .string ⟨#[]⟩, .int .i64 0, .int .i64 0, .int .i64 0, .int .i64 0, .int .i64 0, .int .i64 0, .int .i64 0, .int .i64 0, .string ⟨#[]⟩, .int .i64 0, .int .i64 0, .int .i64 0, .int .i64 0, .int .i64 0, .int .i64 0, .int .i64 0, .int .i64 0] 39 from by rw [← hV]; exact bO2)
  have bC3 := hid (show Blk Wc W1.heap.size [.string ce.s, .slice p1 n1 c1, .slice p2 n2 c2, .slice p3 n3 c3] 72 from by rw [← hV]; exact bC2)
  have E93 := hid (show Ext W0 Wc from by rw [← hV]; exact E92)
  clear hV bO E9 bO2 bC2 E92
  have bO := bO3
  have E9 := E93
  have bC := bC3
  clear bO3 bC3 E93
  have ne5 : W1.heap.size ≠ W0.heap.size := neC.out
  have x0 := (E9.out.cells _ _ b0.out.lt).trans (b0.out.cells 0)
  have l0 := Nat.lt_of_lt_of_le b0.out.lt E9.out.le
  simp only [List.getElem?_cons_zero] at x0
  have y2 := (E9.out.cells _ _ hbH.out).trans wH0.out
  have hb2 := Nat.lt_of_lt_of_le hbH.out E9.out.le
  rw [Nat.add_zero] at y2
  have v0 := (E9.out.cells _ _ hbqH.out).trans vH0.out
  have v1 := (E9.out.cells _ _ hbqH.out).trans vH1.out
  have v2 := (E9.out.cells _ _ hbqH.out).trans vH2.out
  have v3 := (E9.out.cells _ _ hbqH.out).trans vH3.out
  have v4 := (E9.out.cells _ _ hbqH.out).trans vH4.out
  rw [Nat.add_zero] at v0
  have hbq := Nat.lt_of_lt_of_le hbqH.out E9.out.le
  have z1 := (E9.out.cells _ _ hbH.out).trans wH1.out
  have z2 := (E9.out.cells _ _ hbH.out).trans wH2.out
  have z3 := (E9.out.cells _ _ hbH.out).trans wH3.out
  have z4 := (E9.out.cells _ _ hbH.out).trans wH4.out
  have z5 := (E9.out.cells _ _ hbH.out).trans wH5.out
  have gO : ∀ j, Wc.cell? ⟨W0.heap.size, j, none⟩ = [.int .i64 0, .int .i64 (kc : Int), .int .i64 0, .string ⟨#[]⟩, .int .i64 0, .int .i64 0, .int .i64 0, .int .i64 0, .int .i64 0, .int .i64 0, .int .i64 0, .int .i64 0, .string ⟨#[]⟩, .int .i64 0, .int .i64 0, .int .i64 0, .int .i64 0, .int .i64 0, .int .i64 0, .int .i64 0, .int .i64 0][j]? := bO.out.cells
  have fO := bO.out.free
  have lO := bO.out.lt
  have gC : ∀ j, Wc.cell? ⟨W1.heap.size, j, none⟩ = [.string ce.s, .slice p1 n1 c1, .slice p2 n2 c2, .slice p3 n3 c3][j]? := bC.out.cells
  have fC := bC.out.free
  have lC := bC.out.lt
  go_upto_region 22 with (fail)
  clear gO fO lO gC fC lC x0 l0 y2 hb2 hbq v0 v1 v2 v3 v4 z1 z2 z3 z4 z5
  have bO2 := (bO.out.set 0 (.int .i64 3))
  simp only [List.set_cons_zero, List.set_cons_succ] at bO2
  have bC2 := (bC.out.other (B := W0.heap.size) 0 (.int .i64 3) (by have := neC.out; omega))
  have E92 := (E9.out.setCell (p := ⟨W0.heap.size, 0, none⟩) (Nat.le_refl _) (.int .i64 3))
  generalize hV : World.setCell _ _ _ = Wn1
  have bO3 := hid (show Blk Wn1 W0.heap.size [.int .i64 3, .int .i64 (kc : Int), .int .i64 0, .string ⟨#[]⟩, .int .i64 0, .int .i64 0, .int .i64 0, .int .i64 0, .int .i64 0, .int .i64 0, .int .i64 0, .int .i64 0, .string ⟨#[]⟩, .int .i64 0, .int .i64 0, .int .i64 0, .int .i64 0, .int .i64 0, .int .i64 0, .int .i64 0, .int .i64 0] 39 from by rw [← hV]; exact bO2)
  have bC3 := hid (show Blk Wn1 (W1.heap.size) [.string ce.s, .slice p1 n1 c1, .slice p2 n2 c2, .slice p3 n3 c3] 72 from by rw [← hV]; exact bC2)
  have E93 := hid (show Ext W0 Wn1 from by rw [← hV]; exact E92)
  clear hV bO E9 bO2 E92 bC bC2
  have bO := bO3
  have E9 := E93
  clear bO3 E93
  have bC := bC3
  clear bC3
  have x0 := (E9.out.cells _ _ b0.out.lt).trans (b0.out.cells 0)
  have l0 := Nat.lt_of_lt_of_le b0.out.lt E9.out.le
  simp only [List.getElem?_cons_zero] at x0
  have y2 := (E9.out.cells _ _ hbH.out).trans wH0.out
  have hb2 := Nat.lt_of_lt_of_le hbH.out E9.out.le
  rw [Nat.add_zero] at y2
  have v0 := (E9.out.cells _ _ hbqH.out).trans vH0.out
  have v1 := (E9.out.cells _ _ hbqH.out).trans vH1.out
  have v2 := (E9.out.cells _ _ hbqH.out).trans vH2.out
  have v3 := (E9.out.cells _ _ hbqH.out).trans vH3.out
  have v4 := (E9.out.cells _ _ hbqH.out).trans vH4.out
  rw [Nat.add_zero] at v0
  have hbq := Nat.lt_of_lt_of_le hbqH.out E9.out.le
  have z1 := (E9.out.cells _ _ hbH.out).trans wH1.out
  have z2 := (E9.out.cells _ _ hbH.out).trans wH2.out
  have z3 := (E9.out.cells _ _ hbH.out).trans wH3.out
  have z4 := (E9.out.cells _ _ hbH.out).trans wH4.out
  have z5 := (E9.out.cells _ _ hbH.out).trans wH5.out
  have gO : ∀ j, Wn1.cell? ⟨W0.heap.size, j, none⟩ = [.int .i64 3, .int .i64 (kc : Int), .int .i64 0, .string ⟨#[]⟩, .int .i64 0, .int .i64 0, .int .i64 0, .int .i64 0, .int .i64 0, .int .i64 0, .int .i64 0, .int .i64 0, .string ⟨#[]⟩, .int .i64 0, .int .i64 0, .int .i64 0, .int .i64 0, .int .i64 0, .int .i64 0, .int .i64 0, .int .i64 0][j]? := bO.out.cells
  have fO := bO.out.free
  have lO := bO.out.lt
  have gC : ∀ j, Wn1.cell? ⟨W1.heap.size, j, none⟩ = [.string ce.s, .slice p1 n1 c1, .slice p2 n2 c2, .slice p3 n3 c3][j]? := bC.out.cells
  have fC := bC.out.free
  have lC := bC.out.lt
  go_upto_region 23 with (fail)
  clear gO fO lO gC fC lC x0 l0 y2 hb2 hbq v0 v1 v2 v3 v4 z1 z2 z3 z4 z5
  have bO2 := (bO.out.set 2 (.int .i64 (n2 : Int)))
  simp only [List.set_cons_zero, List.set_cons_succ] at bO2
  have bC2 := (bC.out.other (B := W0.heap.size) 2 (.int .i64 (n2 : Int)) (by have := neC.out; omega))
  have E92 := (E9.out.setCell (p := ⟨W0.heap.size, 2, none⟩) (Nat.le_refl _) (.int .i64 (n2 : Int)))
  generalize hV : World.setCell _ _ _ = Wn2
  have bO3 := hid (show Blk Wn2 W0.heap.size [.int .i64 3, .int .i64 (kc : Int), .int .i64 (n2 : Int), .string ⟨#[]⟩, .int .i64 0, .int .i64 0, .int .i64 0, .int .i64 0, .int .i64 0, .int .i64 0, .int .i64 0, .int .i64 0, .string ⟨#[]⟩, .int .i64 0, .int .i64 0, .int .i64 0, .int .i64 0, .int .i64 0, .int .i64 0, .int .i64 0, .int .i64 0] 39 from by rw [← hV]; exact bO2)
  have bC3 := hid (show Blk Wn2 (W1.heap.size) [.string ce.s, .slice p1 n1 c1, .slice p2 n2 c2, .slice p3 n3 c3] 72 from by rw [← hV]; exact bC2)
  have E93 := hid (show Ext W0 Wn2 from by rw [← hV]; exact E92)
  clear hV bO E9 bO2 E92 bC bC2
  have bO := bO3
  have E9 := E93
  clear bO3 E93
  have bC := bC3
  clear bC3
  have x0 := (E9.out.cells _ _ b0.out.lt).trans (b0.out.cells 0)
  have l0 := Nat.lt_of_lt_of_le b0.out.lt E9.out.le
  simp only [List.getElem?_cons_zero] at x0
  have y2 := (E9.out.cells _ _ hbH.out).trans wH0.out
  have hb2 := Nat.lt_of_lt_of_le hbH.out E9.out.le
  rw [Nat.add_zero] at y2
  have v0 := (E9.out.cells _ _ hbqH.out).trans vH0.out
  have v1 := (E9.out.cells _ _ hbqH.out).trans vH1.out
  have v2 := (E9.out.cells _ _ hbqH.out).trans vH2.out
  have v3 := (E9.out.cells _ _ hbqH.out).trans vH3.out
  have v4 := (E9.out.cells _ _ hbqH.out).trans vH4.out
  rw [Nat.add_zero] at v0
  have hbq := Nat.lt_of_lt_of_le hbqH.out E9.out.le
  have z1 := (E9.out.cells _ _ hbH.out).trans wH1.out
  have z2 := (E9.out.cells _ _ hbH.out).trans wH2.out
  have z3 := (E9.out.cells _ _ hbH.out).trans wH3.out
  have z4 := (E9.out.cells _ _ hbH.out).trans wH4.out
  have z5 := (E9.out.cells _ _ hbH.out).trans wH5.out
  have gO : ∀ j, Wn2.cell? ⟨W0.heap.size, j, none⟩ = [.int .i64 3, .int .i64 (kc : Int), .int .i64 (n2 : Int), .string ⟨#[]⟩, .int .i64 0, .int .i64 0, .int .i64 0, .int .i64 0, .int .i64 0, .int .i64 0, .int .i64 0, .int .i64 0, .string ⟨#[]⟩, .int .i64 0, .int .i64 0, .int .i64 0, .int .i64 0, .int .i64 0, .int .i64 0, .int .i64 0, .int .i64 0][j]? := bO.out.cells
  have fO := bO.out.free
  have lO := bO.out.lt
  have gC : ∀ j, Wn2.cell? ⟨W1.heap.size, j, none⟩ = [.string ce.s, .slice p1 n1 c1, .slice p2 n2 c2, .slice p3 n3 c3][j]? := bC.out.cells
  have fC := bC.out.free
  have lC := bC.out.lt
  go_upto_region 23 with (fail)
  refine wp_region_still_tail 15 (by kernel_rfl) (by kernel_rfl) ?_
  simp only [List.take_succ_cons, List.take_zero, List.drop_succ_cons, List.drop_zero]
  iterate 15 still_step
  refine wpStill_nil ?_
  change wpList _ _ _ _ _ Wn2.drew
  go_upto_region 40 with (fail)
  clear gO fO lO gC fC lC x0 l0 y2 hb2 hbq v0 v1 v2 v3 v4 z1 z2 z3 z4 z5
  have bO2 := Blk.drew ((((bO.out.set 9 (.int .i64 V2)).set 10 (.int .i64 V3)).set 11 (.int .i64 V4)).set 12 (.string a5))
  simp only [List.set_cons_zero, List.set_cons_succ] at bO2
  have bC2 := Blk.drew ((((bC.out.other (B := W0.heap.size) 9 (.int .i64 V2) (by have := neC.out; omega)).other (B := W0.heap.size) 10 (.int .i64 V3) (by have := neC.out; omega)).other (B := W0.heap.size) 11 (.int .i64 V4) (by have := neC.out; omega)).other (B := W0.heap.size) 12 (.string a5) (by have := neC.out; omega))
  have E92 := Ext.drew ((((E9.out.setCell (p := ⟨W0.heap.size, 9, none⟩) (Nat.le_refl _) (.int .i64 V2)).setCell (p := ⟨W0.heap.size, 10, none⟩) (Nat.le_refl _) (.int .i64 V3)).setCell (p := ⟨W0.heap.size, 11, none⟩) (Nat.le_refl _) (.int .i64 V4)).setCell (p := ⟨W0.heap.size, 12, none⟩) (Nat.le_refl _) (.string a5))
  generalize hV : World.drew _ = Wn3
  have bO3 := hid (show Blk Wn3 W0.heap.size [.int .i64 3, .int .i64 (kc : Int), .int .i64 (n2 : Int), .string ⟨#[]⟩, .int .i64 0, .int .i64 0, .int .i64 0, .int .i64 0, .int .i64 0, .int .i64 V2, .int .i64 V3, .int .i64 V4, .string a5, .int .i64 0, .int .i64 0, .int .i64 0, .int .i64 0, .int .i64 0, .int .i64 0, .int .i64 0, .int .i64 0] 39 from by rw [← hV]; exact bO2)
  have bC3 := hid (show Blk Wn3 (W1.heap.size) [.string ce.s, .slice p1 n1 c1, .slice p2 n2 c2, .slice p3 n3 c3] 72 from by rw [← hV]; exact bC2)
  have E93 := hid (show Ext W0 Wn3 from by rw [← hV]; exact E92)
  clear hV bO E9 bO2 E92 bC bC2
  have bO := bO3
  have E9 := E93
  clear bO3 E93
  have bC := bC3
  clear bC3
  have x0 := (E9.out.cells _ _ b0.out.lt).trans (b0.out.cells 0)
  have l0 := Nat.lt_of_lt_of_le b0.out.lt E9.out.le
  simp only [List.getElem?_cons_zero] at x0
  have y2 := (E9.out.cells _ _ hbH.out).trans wH0.out
  have hb2 := Nat.lt_of_lt_of_le hbH.out E9.out.le
  rw [Nat.add_zero] at y2
  have v0 := (E9.out.cells _ _ hbqH.out).trans vH0.out
  have v1 := (E9.out.cells _ _ hbqH.out).trans vH1.out
  have v2 := (E9.out.cells _ _ hbqH.out).trans vH2.out
  have v3 := (E9.out.cells _ _ hbqH.out).trans vH3.out
  have v4 := (E9.out.cells _ _ hbqH.out).trans vH4.out
  rw [Nat.add_zero] at v0
  have hbq := Nat.lt_of_lt_of_le hbqH.out E9.out.le
  have z1 := (E9.out.cells _ _ hbH.out).trans wH1.out
  have z2 := (E9.out.cells _ _ hbH.out).trans wH2.out
  have z3 := (E9.out.cells _ _ hbH.out).trans wH3.out
  have z4 := (E9.out.cells _ _ hbH.out).trans wH4.out
  have z5 := (E9.out.cells _ _ hbH.out).trans wH5.out
  have gO : ∀ j, Wn3.cell? ⟨W0.heap.size, j, none⟩ = [.int .i64 3, .int .i64 (kc : Int), .int .i64 (n2 : Int), .string ⟨#[]⟩, .int .i64 0, .int .i64 0, .int .i64 0, .int .i64 0, .int .i64 0, .int .i64 V2, .int .i64 V3, .int .i64 V4, .string a5, .int .i64 0, .int .i64 0, .int .i64 0, .int .i64 0, .int .i64 0, .int .i64 0, .int .i64 0, .int .i64 0][j]? := bO.out.cells
  have fO := bO.out.free
  have lO := bO.out.lt
  have gC : ∀ j, Wn3.cell? ⟨W1.heap.size, j, none⟩ = [.string ce.s, .slice p1 n1 c1, .slice p2 n2 c2, .slice p3 n3 c3][j]? := bC.out.cells
  have fC := bC.out.free
  have lC := bC.out.lt
  clear gO fO lO gC fC lC x0 l0 y2 hb2 hbq v0 v1 v2 v3 v4 z1 z2 z3 z4 z5
  have bE := hid (show Blk Wn3 W0.heap.size (encEd ⟨3, (kc : Int), (ce.lbs.length : Int), emp, zS, ⟨V2, ⟨V3, V4⟩, a5⟩, zI⟩) 39 from by rw [ln2.out]; exact bO.out)
  have rE := hid (range_blk bE.out)
  have r1 := hid (there_blk (b1.out.ext E9.out))
  go_wp2_with (first | ((with_reducible refine at_dst 160 ?_); refine wpList_load_mid rfl 39 (Operand.tmp 7) rfl (W0.heap.size) 0 rfl (encEd ⟨3, (kc : Int), (ce.lbs.length : Int), emp, zS, ⟨V2, ⟨V3, V4⟩, a5⟩, zI⟩) _ rE.out Tryz.underlying39 rfl (sz_Ed2 _) ?_) | ((with_reducible refine at_store ?_); refine wpList_store_mid rfl 39 (Operand.tmp 6) _ rfl (w.heap.size + 1) 0 (encEd ⟨3, (kc : Int), (ce.lbs.length : Int), emp, zS, ⟨V2, ⟨V3, V4⟩, a5⟩, zI⟩).toArray rfl rfl r1.out (sz_Ed _) (one_Edit _) ?_))
  generalize hV9 : World.setCells _ _ _ _ = W9
  have kB : Blk W9 (w.heap.size + 1) (encEd ⟨3, (kc : Int), (ce.lbs.length : Int), emp, zS, ⟨V2, ⟨V3, V4⟩, a5⟩, zI⟩) 39 := by rw [← hV9]; exact (b1.out.ext E9.out).setAll (vs := encEd ⟨3, (kc : Int), (ce.lbs.length : Int), emp, zS, ⟨V2, ⟨V3, V4⟩, a5⟩, zI⟩) rfl
  have hE2 : Ext w W9 := by rw [← hV9]; exact ext_setCells (by omega) _ _ _ (E0.trans E9.out)
  clear hV9
  exact bodyPost_ret (v := .agg (encEd ⟨3, (kc : Int), (ce.lbs.length : Int), emp, zS, ⟨V2, ⟨V3, V4⟩, a5⟩, zI⟩).toArray) (results_cell_row Tryz.results26 _ _ (w.heap.size + 1) 39 (encEd ⟨3, (kc : Int), (ce.lbs.length : Int), emp, zS, ⟨V2, ⟨V3, V4⟩, a5⟩, zI⟩).toArray (0, 0) _ rfl kB Tryz.underlying39 rfl (sz_Ed _)) rfl ⟨rfl, hE2⟩

set_option maxRecDepth 100000 in
set_option maxHeartbeats 4000000 in
theorem rEdit_5 (s : ByteArray) (a1 a2 a3 a4 a5 : ByteArray) (V2 V3 V4 V5 : Int) (kc : Nat) (ce : CeD) (l : List CeD) (p : Option Addr) (b off bq oq : Nat) (n c m d d3 base base2 base3 : Nat) (w : World) (h : SlD CeR 4 base w p n l) (hn : n ≤ 1048576) (hS : SlD (Fl encW) 1 base2 w (some ⟨b, off, none⟩) (m + 1) [s, a1, a2, a3, a4, a5]) (hv : SlD (Fl enc1) 1 base3 w (some ⟨bq, oq, none⟩) 5 [(kc : Int), V2, V3, V4, V5]) (hj : kwX s = some 5) (hce : l[kc]? = some ce) :
    Calls Tryz.prog 26 #[.agg #[.slice p n c], .slice (some ⟨b, off, none⟩) (m + 1) d, .slice (some ⟨bq, oq, none⟩) 5 d3] w fun e w' => e = .returned (.agg (encEd ⟨5, (kc : Int), (ce.ins.length : Int), emp, zS, zL, ⟨V2, ⟨V3, V4, V5⟩, 1, 1, 0, 0⟩⟩).toArray) ∧ Ext w w' := by
  have hl := hid h.length
  have hmr := hid (show m = 5 by have := hS.length; simpa using this.symm)
  have hbw := hid (show b < w.heap.size by obtain ⟨b', o', h1, h2⟩ := slice_at hS (by omega); cases h1; exact h2)
  have hbqw := hid (show bq < w.heap.size by obtain ⟨b', o', h1, h2⟩ := slice_at hv (by omega); cases h1; exact h2)
  have hm0 : (0 : Int) < (m : Int) + 1 := by omega
  have hm9 : (0 : Int) < ((m + 1 : Nat) : Int) := by omega
  have hi1 : (1 : Int) < (m : Int) + 1 := by have := hmr.out; omega
  have hi2 : (2 : Int) < (m : Int) + 1 := by have := hmr.out; omega
  have hi3 : (3 : Int) < (m : Int) + 1 := by have := hmr.out; omega
  have hi4 : (4 : Int) < (m : Int) + 1 := by have := hmr.out; omega
  have hi5 : (5 : Int) < (m : Int) + 1 := by have := hmr.out; omega
  have hs := kw_5 hj
  go_enter Tryz.func26, Tryz.ntmps26
  go_upto_region 1 with (fail)
  generalize hW : World.alloc (World.alloc _ _) _ = W0
  obtain ⟨E0, z0, b0, b1⟩ := boxes2 hW
  clear hW z0
  replace b0 := hid (show Blk W0 (w.heap.size) [_] _ from b0)
  replace b1 := hid (show Blk W0 (w.heap.size + 1) (encEd zE) _ from b1)
  have hbH := hid (Nat.lt_of_lt_of_le hbw.out E0.le)
  have hbqH := hid (Nat.lt_of_lt_of_le hbqw.out E0.le)
  have vH0 := hid ((E0.cells _ _ hbqw.out).trans (get_i hv (k := 0) rfl))
  have vH1 := hid ((E0.cells _ _ hbqw.out).trans (get_i hv (k := 1) rfl))
  have vH2 := hid ((E0.cells _ _ hbqw.out).trans (get_i hv (k := 2) rfl))
  have vH3 := hid ((E0.cells _ _ hbqw.out).trans (get_i hv (k := 3) rfl))
  have vH4 := hid ((E0.cells _ _ hbqw.out).trans (get_i hv (k := 4) rfl))
  have wH0 := hid ((E0.cells _ _ hbw.out).trans (get_s hS (k := 0) rfl))
  have wH1 := hid ((E0.cells _ _ hbw.out).trans (get_s hS (k := 1) rfl))
  have wH2 := hid ((E0.cells _ _ hbw.out).trans (get_s hS (k := 2) rfl))
  have wH3 := hid ((E0.cells _ _ hbw.out).trans (get_s hS (k := 3) rfl))
  have wH4 := hid ((E0.cells _ _ hbw.out).trans (get_s hS (k := 4) rfl))
  have wH5 := hid ((E0.cells _ _ hbw.out).trans (get_s hS (k := 5) rfl))
  have ne1 : b ≠ W0.heap.size := by have := hbH.out; omega
  have ne2 : bq ≠ W0.heap.size := by have := hbqH.out; omega
  have ne3 : w.heap.size ≠ W0.heap.size := by have := b0.out.lt; omega
  have v0 := vH0.out
  rw [Nat.add_zero] at v0
  have hbq := hbqH.out
  clear hv
  go_upto_region 2 with (first | (refine wpList_build rfl 39 #[(1, .tmp 11)] rfl [(1, .int .i64 (kc : Int))] rfl (encEd ⟨0, (kc : Int), 0, emp, zS, zL, zI⟩).toArray (built_v _) ?_) | ((with_reducible refine at_store ?_); refine wpList_newEd rfl (Operand.tmp 7) (Operand.tmp 12) rfl ⟨0, (kc : Int), 0, emp, zS, zL, zI⟩ _ rfl rfl rfl ?_; intro W1 bO E9))
  clear v0 hbq
  replace bO := hid (show Blk W1 W0.heap.size [.int .i64 0, .int .i64 (kc : Int), .int .i64 0, .string ⟨#[]⟩, .int .i64 0, .int .i64 0, .int .i64 0, .int .i64 0, .int .i64 0, .int .i64 0, .int .i64 0, .int .i64 0, .string ⟨#[]⟩, .int .i64 0, .int .i64 0, .int .i64 0, .int .i64 0, .int .i64 0, .int .i64 0, .int .i64 0, .int .i64 0] 39 from bO)
  replace E9 := hid E9
  have x0 := (E9.out.cells _ _ b0.out.lt).trans (b0.out.cells 0)
  have l0 := Nat.lt_of_lt_of_le b0.out.lt E9.out.le
  simp only [List.getElem?_cons_zero] at x0
  have y2 := (E9.out.cells _ _ hbH.out).trans wH0.out
  have hb2 := Nat.lt_of_lt_of_le hbH.out E9.out.le
  rw [Nat.add_zero] at y2
  have v0 := (E9.out.cells _ _ hbqH.out).trans vH0.out
  have v1 := (E9.out.cells _ _ hbqH.out).trans vH1.out
  have v2 := (E9.out.cells _ _ hbqH.out).trans vH2.out
  have v3 := (E9.out.cells _ _ hbqH.out).trans vH3.out
  have v4 := (E9.out.cells _ _ hbqH.out).trans vH4.out
  rw [Nat.add_zero] at v0
  have hbq := Nat.lt_of_lt_of_le hbqH.out E9.out.le
  have z1 := (E9.out.cells _ _ hbH.out).trans wH1.out
  have z2 := (E9.out.cells _ _ hbH.out).trans wH2.out
  have z3 := (E9.out.cells _ _ hbH.out).trans wH3.out
  have z4 := (E9.out.cells _ _ hbH.out).trans wH4.out
  have z5 := (E9.out.cells _ _ hbH.out).trans wH5.out
  have gO : ∀ j, W1.cell? ⟨W0.heap.size, j, none⟩ = [.int .i64 0, .int .i64 (kc : Int), .int .i64 0, .string ⟨#[]⟩, .int .i64 0, .int .i64 0, .int .i64 0, .int .i64 0, .int .i64 0, .int .i64 0, .int .i64 0, .int .i64 0, .string ⟨#[]⟩, .int .i64 0, .int .i64 0, .int .i64 0, .int .i64 0, .int .i64 0, .int .i64 0, .int .i64 0, .int .i64 0][j]? := bO.out.cells
  have fO := bO.out.free
  have lO := bO.out.lt
  go_upto_region 12 with (fail)
  have hkn : kc < n := by have := (List.getElem?_eq_some_iff.1 hce).1; have := hl.out; omega
  have hknI : (kc : Int) < n := by omega
  obtain ⟨bl, ofl, ye, cs, hpl, hbl, hxl, hcs, hcl⟩ := (h.ext CeR.ok (E0.trans E9.out)).get hkn
  subst hpl
  obtain rfl : ce = ye := Option.some.inj (hce.symm.trans hxl.out)
  obtain ⟨p1, n1, c1, p2, n2, c2, p3, n3, c3, rfl, s1, s2, s3⟩ := hcs
  have c0 := hcl 0 _ rfl
  rw [Nat.add_zero] at c0
  have c10 := hcl 1 _ rfl
  have c20 := hcl 2 _ rfl
  have c30 := hcl 3 _ rfl
  have ln1 := hid s1.length
  have ln2 := hid s2.length
  have ln3 := hid s3.length
  clear hcl s1 s2 s3 hce hxl
  go_region
  clear gO fO lO x0 l0 y2 hb2 hbq v0 v1 v2 v3 v4 z1 z2 z3 z4 z5
  clear c0 c10 c20 c30 hbl
  have bO2 := Blk.drew (bO.out.alloc (.cells [.string ce.s, .slice p1 n1 c1, .slice p2 n2 c2, .slice p3 n3 c3].toArray 72))
  have bC2 := Blk.drew (Blk.new W1 [.string ce.s, .slice p1 n1 c1, .slice p2 n2 c2, .slice p3 n3 c3] 72)
  have E92 := Ext.drew (E9.out.alloc (.cells [.string ce.s, .slice p1 n1 c1, .slice p2 n2 c2, .slice p3 n3 c3].toArray 72))
  have neC := hid (show W1.heap.size ≠ W0.heap.size by have := bO.out.lt; omega)
  generalize hV : World.drew _ = Wc
  have bO3 := hid (show Blk Wc W0.heap.size [.int .i64 0, .int .i64 (kc : Int), .int .i64 0, .string ⟨#[]⟩, .int .i64 0, .int .i64 0, .int .i64 0, .int .i64 0, .int .i64 0, .int .i64 0, .int .i64 0, .int .i64 0, .string ⟨#[]⟩, .int .i64 0, .int .i64 0, .int .i64 0, .int .i64 0, .int .i64 0, .int .i64 0, .int .i64 0, .int .i64 0] 39 from by rw [← hV]; exact bO2)
  have bC3 := hid (show Blk Wc W1.heap.size [.string ce.s, .slice p1 n1 c1, .slice p2 n2 c2, .slice p3 n3 c3] 72 from by rw [← hV]; exact bC2)
  have E93 := hid (show Ext W0 Wc from by rw [← hV]; exact E92)
  clear hV bO E9 bO2 bC2 E92
  have bO := bO3
  have E9 := E93
  have bC := bC3
  clear bO3 bC3 E93
  have ne5 : W1.heap.size ≠ W0.heap.size := neC.out
  have x0 := (E9.out.cells _ _ b0.out.lt).trans (b0.out.cells 0)
  have l0 := Nat.lt_of_lt_of_le b0.out.lt E9.out.le
  simp only [List.getElem?_cons_zero] at x0
  have y2 := (E9.out.cells _ _ hbH.out).trans wH0.out
  have hb2 := Nat.lt_of_lt_of_le hbH.out E9.out.le
  rw [Nat.add_zero] at y2
  have v0 := (E9.out.cells _ _ hbqH.out).trans vH0.out
  have v1 := (E9.out.cells _ _ hbqH.out).trans vH1.out
  have v2 := (E9.out.cells _ _ hbqH.out).trans vH2.out
  have v3 := (E9.out.cells _ _ hbqH.out).trans vH3.out
  have v4 := (E9.out.cells _ _ hbqH.out).trans vH4.out
  rw [Nat.add_zero] at v0
  have hbq := Nat.lt_of_lt_of_le hbqH.out E9.out.le
  have z1 := (E9.out.cells _ _ hbH.out).trans wH1.out
  have z2 := (E9.out.cells _ _ hbH.out).trans wH2.out
  have z3 := (E9.out.cells _ _ hbH.out).trans wH3.out
  have z4 := (E9.out.cells _ _ hbH.out).trans wH4.out
  have z5 := (E9.out.cells _ _ hbH.out).trans wH5.out
  have gO : ∀ j, Wc.cell? ⟨W0.heap.size, j, none⟩ = [.int .i64 0, .int .i64 (kc : Int), .int .i64 0, .string ⟨#[]⟩, .int .i64 0, .int .i64 0, .int .i64 0, .int .i64 0, .int .i64 0, .int .i64 0, .int .i64 0, .int .i64 0, .string ⟨#[]⟩, .int .i64 0, .int .i64 0, .int .i64 0, .int .i64 0, .int .i64 0, .int .i64 0, .int .i64 0, .int .i64 0][j]? := bO.out.cells
  have fO := bO.out.free
  have lO := bO.out.lt
  have gC : ∀ j, Wc.cell? ⟨W1.heap.size, j, none⟩ = [.string ce.s, .slice p1 n1 c1, .slice p2 n2 c2, .slice p3 n3 c3][j]? := bC.out.cells
  have fC := bC.out.free
  have lC := bC.out.lt
  go_upto_region 27 with (fail)
  clear gO fO lO gC fC lC x0 l0 y2 hb2 hbq v0 v1 v2 v3 v4 z1 z2 z3 z4 z5
  have bO2 := (bO.out.set 0 (.int .i64 5))
  simp only [List.set_cons_zero, List.set_cons_succ] at bO2
  have bC2 := (bC.out.other (B := W0.heap.size) 0 (.int .i64 5) (by have := neC.out; omega))
  have E92 := (E9.out.setCell (p := ⟨W0.heap.size, 0, none⟩) (Nat.le_refl _) (.int .i64 5))
  generalize hV : World.setCell _ _ _ = Wn1
  have bO3 := hid (show Blk Wn1 W0.heap.size [.int .i64 5, .int .i64 (kc : Int), .int .i64 0, .string ⟨#[]⟩, .int .i64 0, .int .i64 0, .int .i64 0, .int .i64 0, .int .i64 0, .int .i64 0, .int .i64 0, .int .i64 0, .string ⟨#[]⟩, .int .i64 0, .int .i64 0, .int .i64 0, .int .i64 0, .int .i64 0, .int .i64 0, .int .i64 0, .int .i64 0] 39 from by rw [← hV]; exact bO2)
  have bC3 := hid (show Blk Wn1 (W1.heap.size) [.string ce.s, .slice p1 n1 c1, .slice p2 n2 c2, .slice p3 n3 c3] 72 from by rw [← hV]; exact bC2)
  have E93 := hid (show Ext W0 Wn1 from by rw [← hV]; exact E92)
  clear hV bO E9 bO2 E92 bC bC2
  have bO := bO3
  have E9 := E93
  clear bO3 E93
  have bC := bC3
  clear bC3
  have x0 := (E9.out.cells _ _ b0.out.lt).trans (b0.out.cells 0)
  have l0 := Nat.lt_of_lt_of_le b0.out.lt E9.out.le
  simp only [List.getElem?_cons_zero] at x0
  have y2 := (E9.out.cells _ _ hbH.out).trans wH0.out
  have hb2 := Nat.lt_of_lt_of_le hbH.out E9.out.le
  rw [Nat.add_zero] at y2
  have v0 := (E9.out.cells _ _ hbqH.out).trans vH0.out
  have v1 := (E9.out.cells _ _ hbqH.out).trans vH1.out
  have v2 := (E9.out.cells _ _ hbqH.out).trans vH2.out
  have v3 := (E9.out.cells _ _ hbqH.out).trans vH3.out
  have v4 := (E9.out.cells _ _ hbqH.out).trans vH4.out
  rw [Nat.add_zero] at v0
  have hbq := Nat.lt_of_lt_of_le hbqH.out E9.out.le
  have z1 := (E9.out.cells _ _ hbH.out).trans wH1.out
  have z2 := (E9.out.cells _ _ hbH.out).trans wH2.out
  have z3 := (E9.out.cells _ _ hbH.out).trans wH3.out
  have z4 := (E9.out.cells _ _ hbH.out).trans wH4.out
  have z5 := (E9.out.cells _ _ hbH.out).trans wH5.out
  have gO : ∀ j, Wn1.cell? ⟨W0.heap.size, j, none⟩ = [.int .i64 5, .int .i64 (kc : Int), .int .i64 0, .string ⟨#[]⟩, .int .i64 0, .int .i64 0, .int .i64 0, .int .i64 0, .int .i64 0, .int .i64 0, .int .i64 0, .int .i64 0, .string ⟨#[]⟩, .int .i64 0, .int .i64 0, .int .i64 0, .int .i64 0, .int .i64 0, .int .i64 0, .int .i64 0, .int .i64 0][j]? := bO.out.cells
  have fO := bO.out.free
  have lO := bO.out.lt
  have gC : ∀ j, Wn1.cell? ⟨W1.heap.size, j, none⟩ = [.string ce.s, .slice p1 n1 c1, .slice p2 n2 c2, .slice p3 n3 c3][j]? := bC.out.cells
  have fC := bC.out.free
  have lC := bC.out.lt
  go_upto_region 28 with (fail)
  clear gO fO lO gC fC lC x0 l0 y2 hb2 hbq v0 v1 v2 v3 v4 z1 z2 z3 z4 z5
  have bO2 := (bO.out.set 2 (.int .i64 (n3 : Int)))
  simp only [List.set_cons_zero, List.set_cons_succ] at bO2
  have bC2 := (bC.out.other (B := W0.heap.size) 2 (.int .i64 (n3 : Int)) (by have := neC.out; omega))
  have E92 := (E9.out.setCell (p := ⟨W0.heap.size, 2, none⟩) (Nat.le_refl _) (.int .i64 (n3 : Int)))
  generalize hV : World.setCell _ _ _ = Wn2
  have bO3 := hid (show Blk Wn2 W0.heap.size [.int .i64 5, .int .i64 (kc : Int), .int .i64 (n3 : Int), .string ⟨#[]⟩, .int .i64 0, .int .i64 0, .int .i64 0, .int .i64 0, .int .i64 0, .int .i64 0, .int .i64 0, .int .i64 0, .string ⟨#[]⟩, .int .i64 0, .int .i64 0, .int .i64 0, .int .i64 0, .int .i64 0, .int .i64 0, .int .i64 0, .int .i64 0] 39 from by rw [← hV]; exact bO2)
  have bC3 := hid (show Blk Wn2 (W1.heap.size) [.string ce.s, .slice p1 n1 c1, .slice p2 n2 c2, .slice p3 n3 c3] 72 from by rw [← hV]; exact bC2)
  have E93 := hid (show Ext W0 Wn2 from by rw [← hV]; exact E92)
  clear hV bO E9 bO2 E92 bC bC2
  have bO := bO3
  have E9 := E93
  clear bO3 E93
  have bC := bC3
  clear bC3
  have x0 := (E9.out.cells _ _ b0.out.lt).trans (b0.out.cells 0)
  have l0 := Nat.lt_of_lt_of_le b0.out.lt E9.out.le
  simp only [List.getElem?_cons_zero] at x0
  have y2 := (E9.out.cells _ _ hbH.out).trans wH0.out
  have hb2 := Nat.lt_of_lt_of_le hbH.out E9.out.le
  rw [Nat.add_zero] at y2
  have v0 := (E9.out.cells _ _ hbqH.out).trans vH0.out
  have v1 := (E9.out.cells _ _ hbqH.out).trans vH1.out
  have v2 := (E9.out.cells _ _ hbqH.out).trans vH2.out
  have v3 := (E9.out.cells _ _ hbqH.out).trans vH3.out
  have v4 := (E9.out.cells _ _ hbqH.out).trans vH4.out
  rw [Nat.add_zero] at v0
  have hbq := Nat.lt_of_lt_of_le hbqH.out E9.out.le
  have z1 := (E9.out.cells _ _ hbH.out).trans wH1.out
  have z2 := (E9.out.cells _ _ hbH.out).trans wH2.out
  have z3 := (E9.out.cells _ _ hbH.out).trans wH3.out
  have z4 := (E9.out.cells _ _ hbH.out).trans wH4.out
  have z5 := (E9.out.cells _ _ hbH.out).trans wH5.out
  have gO : ∀ j, Wn2.cell? ⟨W0.heap.size, j, none⟩ = [.int .i64 5, .int .i64 (kc : Int), .int .i64 (n3 : Int), .string ⟨#[]⟩, .int .i64 0, .int .i64 0, .int .i64 0, .int .i64 0, .int .i64 0, .int .i64 0, .int .i64 0, .int .i64 0, .string ⟨#[]⟩, .int .i64 0, .int .i64 0, .int .i64 0, .int .i64 0, .int .i64 0, .int .i64 0, .int .i64 0, .int .i64 0][j]? := bO.out.cells
  have fO := bO.out.free
  have lO := bO.out.lt
  have gC : ∀ j, Wn2.cell? ⟨W1.heap.size, j, none⟩ = [.string ce.s, .slice p1 n1 c1, .slice p2 n2 c2, .slice p3 n3 c3][j]? := bC.out.cells
  have fC := bC.out.free
  have lC := bC.out.lt
  go_upto_region 28 with (fail)
  refine wp_region_still_tail 15 (by kernel_rfl) (by kernel_rfl) ?_
  simp only [List.take_succ_cons, List.take_zero, List.drop_succ_cons, List.drop_zero]
  iterate 15 still_step
  refine wpStill_nil ?_
  change wpList _ _ _ _ _ Wn2.drew
  go_upto_region 29 with (fail)
  clear gO fO lO gC fC lC x0 l0 y2 hb2 hbq v0 v1 v2 v3 v4 z1 z2 z3 z4 z5
  have bO2 := Blk.drew ((((((((bO.out.set 13 (.int .i64 V2)).set 14 (.int .i64 V3)).set 15 (.int .i64 V4)).set 16 (.int .i64 V5)).set 17 (.int .i64 1)).set 18 (.int .i64 1)).set 19 (.int .i64 0)).set 20 (.int .i64 0))
  simp only [List.set_cons_zero, List.set_cons_succ] at bO2
  have bC2 := Blk.drew ((((((((bC.out.other (B := W0.heap.size) 13 (.int .i64 V2) (by have := neC.out; omega)).other (B := W0.heap.size) 14 (.int .i64 V3) (by have := neC.out; omega)).other (B := W0.heap.size) 15 (.int .i64 V4) (by have := neC.out; omega)).other (B := W0.heap.size) 16 (.int .i64 V5) (by have := neC.out; omega)).other (B := W0.heap.size) 17 (.int .i64 1) (by have := neC.out; omega)).other (B := W0.heap.size) 18 (.int .i64 1) (by have := neC.out; omega)).other (B := W0.heap.size) 19 (.int .i64 0) (by have := neC.out; omega)).other (B := W0.heap.size) 20 (.int .i64 0) (by have := neC.out; omega))
  have E92 := Ext.drew ((((((((E9.out.setCell (p := ⟨W0.heap.size, 13, none⟩) (Nat.le_refl _) (.int .i64 V2)).setCell (p := ⟨W0.heap.size, 14, none⟩) (Nat.le_refl _) (.int .i64 V3)).setCell (p := ⟨W0.heap.size, 15, none⟩) (Nat.le_refl _) (.int .i64 V4)).setCell (p := ⟨W0.heap.size, 16, none⟩) (Nat.le_refl _) (.int .i64 V5)).setCell (p := ⟨W0.heap.size, 17, none⟩) (Nat.le_refl _) (.int .i64 1)).setCell (p := ⟨W0.heap.size, 18, none⟩) (Nat.le_refl _) (.int .i64 1)).setCell (p := ⟨W0.heap.size, 19, none⟩) (Nat.le_refl _) (.int .i64 0)).setCell (p := ⟨W0.heap.size, 20, none⟩) (Nat.le_refl _) (.int .i64 0))
  generalize hV : World.drew _ = Wn3
  have bO3 := hid (show Blk Wn3 W0.heap.size [.int .i64 5, .int .i64 (kc : Int), .int .i64 (n3 : Int), .string ⟨#[]⟩, .int .i64 0, .int .i64 0, .int .i64 0, .int .i64 0, .int .i64 0, .int .i64 0, .int .i64 0, .int .i64 0, .string ⟨#[]⟩, .int .i64 V2, .int .i64 V3, .int .i64 V4, .int .i64 V5, .int .i64 1, .int .i64 1, .int .i64 0, .int .i64 0] 39 from by rw [← hV]; exact bO2)
  have bC3 := hid (show Blk Wn3 (W1.heap.size) [.string ce.s, .slice p1 n1 c1, .slice p2 n2 c2, .slice p3 n3 c3] 72 from by rw [← hV]; exact bC2)
  have E93 := hid (show Ext W0 Wn3 from by rw [← hV]; exact E92)
  clear hV bO E9 bO2 E92 bC bC2
  have bO := bO3
  have E9 := E93
  clear bO3 E93
  have bC := bC3
  clear bC3
  have x0 := (E9.out.cells _ _ b0.out.lt).trans (b0.out.cells 0)
  have l0 := Nat.lt_of_lt_of_le b0.out.lt E9.out.le
  simp only [List.getElem?_cons_zero] at x0
  have y2 := (E9.out.cells _ _ hbH.out).trans wH0.out
  have hb2 := Nat.lt_of_lt_of_le hbH.out E9.out.le
  rw [Nat.add_zero] at y2
  have v0 := (E9.out.cells _ _ hbqH.out).trans vH0.out
  have v1 := (E9.out.cells _ _ hbqH.out).trans vH1.out
  have v2 := (E9.out.cells _ _ hbqH.out).trans vH2.out
  have v3 := (E9.out.cells _ _ hbqH.out).trans vH3.out
  have v4 := (E9.out.cells _ _ hbqH.out).trans vH4.out
  rw [Nat.add_zero] at v0
  have hbq := Nat.lt_of_lt_of_le hbqH.out E9.out.le
  have z1 := (E9.out.cells _ _ hbH.out).trans wH1.out
  have z2 := (E9.out.cells _ _ hbH.out).trans wH2.out
  have z3 := (E9.out.cells _ _ hbH.out).trans wH3.out
  have z4 := (E9.out.cells _ _ hbH.out).trans wH4.out
  have z5 := (E9.out.cells _ _ hbH.out).trans wH5.out
  have gO : ∀ j, Wn3.cell? ⟨W0.heap.size, j, none⟩ = [.int .i64 5, .int .i64 (kc : Int), .int .i64 (n3 : Int), .string ⟨#[]⟩, .int .i64 0, .int .i64 0, .int .i64 0, .int .i64 0, .int .i64 0, .int .i64 0, .int .i64 0, .int .i64 0, .string ⟨#[]⟩, .int .i64 V2, .int .i64 V3, .int .i64 V4, .int .i64 V5, .int .i64 1, .int .i64 1, .int .i64 0, .int .i64 0][j]? := bO.out.cells
  have fO := bO.out.free
  have lO := bO.out.lt
  have gC : ∀ j, Wn3.cell? ⟨W1.heap.size, j, none⟩ = [.string ce.s, .slice p1 n1 c1, .slice p2 n2 c2, .slice p3 n3 c3][j]? := bC.out.cells
  have fC := bC.out.free
  have lC := bC.out.lt
  go_upto_region 40 with (fail)
  clear gO fO lO gC fC lC x0 l0 y2 hb2 hbq v0 v1 v2 v3 v4 z1 z2 z3 z4 z5
  have bE := hid (show Blk Wn3 W0.heap.size (encEd ⟨5, (kc : Int), (ce.ins.length : Int), emp, zS, zL, ⟨V2, ⟨V3, V4, V5⟩, 1, 1, 0, 0⟩⟩) 39 from by rw [ln3.out]; exact bO.out)
  have rE := hid (range_blk bE.out)
  have r1 := hid (there_blk (b1.out.ext E9.out))
  go_wp2_with (first | ((with_reducible refine at_dst 160 ?_); refine wpList_load_mid rfl 39 (Operand.tmp 7) rfl (W0.heap.size) 0 rfl (encEd ⟨5, (kc : Int), (ce.ins.length : Int), emp, zS, zL, ⟨V2, ⟨V3, V4, V5⟩, 1, 1, 0, 0⟩⟩) _ rE.out Tryz.underlying39 rfl (sz_Ed2 _) ?_) | ((with_reducible refine at_store ?_); refine wpList_store_mid rfl 39 (Operand.tmp 6) _ rfl (w.heap.size + 1) 0 (encEd ⟨5, (kc : Int), (ce.ins.length : Int), emp, zS, zL, ⟨V2, ⟨V3, V4, V5⟩, 1, 1, 0, 0⟩⟩).toArray rfl rfl r1.out (sz_Ed _) (one_Edit _) ?_))
  generalize hV9 : World.setCells _ _ _ _ = W9
  have kB : Blk W9 (w.heap.size + 1) (encEd ⟨5, (kc : Int), (ce.ins.length : Int), emp, zS, zL, ⟨V2, ⟨V3, V4, V5⟩, 1, 1, 0, 0⟩⟩) 39 := by rw [← hV9]; exact (b1.out.ext E9.out).setAll (vs := encEd ⟨5, (kc : Int), (ce.ins.length : Int), emp, zS, zL, ⟨V2, ⟨V3, V4, V5⟩, 1, 1, 0, 0⟩⟩) rfl
  have hE2 : Ext w W9 := by rw [← hV9]; exact ext_setCells (by omega) _ _ _ (E0.trans E9.out)
  clear hV9
  exact bodyPost_ret (v := .agg (encEd ⟨5, (kc : Int), (ce.ins.length : Int), emp, zS, zL, ⟨V2, ⟨V3, V4, V5⟩, 1, 1, 0, 0⟩⟩).toArray) (results_cell_row Tryz.results26 _ _ (w.heap.size + 1) 39 (encEd ⟨5, (kc : Int), (ce.ins.length : Int), emp, zS, zL, ⟨V2, ⟨V3, V4, V5⟩, 1, 1, 0, 0⟩⟩).toArray (0, 0) _ rfl kB Tryz.underlying39 rfl (sz_Ed _)) rfl ⟨rfl, hE2⟩

set_option maxRecDepth 100000 in
set_option maxHeartbeats 4000000 in
theorem rEdit_6 (s : ByteArray) (a1 a2 a3 a4 a5 a6 a7 a8 a9 : ByteArray) (V2 V3 V4 V5 V6 V7 V8 V9 : Int) (kc : Nat) (ce : CeD) (l : List CeD) (p : Option Addr) (b off bq oq : Nat) (n c m d d3 base base2 base3 : Nat) (w : World) (h : SlD CeR 4 base w p n l) (hn : n ≤ 1048576) (hS : SlD (Fl encW) 1 base2 w (some ⟨b, off, none⟩) (m + 1) [s, a1, a2, a3, a4, a5, a6, a7, a8, a9]) (hv : SlD (Fl enc1) 1 base3 w (some ⟨bq, oq, none⟩) 9 [(kc : Int), V2, V3, V4, V5, V6, V7, V8, V9]) (hj : kwX s = some 6) (hce : l[kc]? = some ce) :
    Calls Tryz.prog 26 #[.agg #[.slice p n c], .slice (some ⟨b, off, none⟩) (m + 1) d, .slice (some ⟨bq, oq, none⟩) 9 d3] w fun e w' => e = .returned (.agg (encEd ⟨5, (kc : Int), (ce.ins.length : Int), emp, zS, zL, ⟨V2, ⟨V3, V4, V5⟩, V6, V7, V8, V9⟩⟩).toArray) ∧ Ext w w' := by
  have hl := hid h.length
  have hmr := hid (show m = 9 by have := hS.length; simpa using this.symm)
  have hbw := hid (show b < w.heap.size by obtain ⟨b', o', h1, h2⟩ := slice_at hS (by omega); cases h1; exact h2)
  have hbqw := hid (show bq < w.heap.size by obtain ⟨b', o', h1, h2⟩ := slice_at hv (by omega); cases h1; exact h2)
  have hm0 : (0 : Int) < (m : Int) + 1 := by omega
  have hm9 : (0 : Int) < ((m + 1 : Nat) : Int) := by omega
  have hi1 : (1 : Int) < (m : Int) + 1 := by have := hmr.out; omega
  have hi2 : (2 : Int) < (m : Int) + 1 := by have := hmr.out; omega
  have hi3 : (3 : Int) < (m : Int) + 1 := by have := hmr.out; omega
  have hi4 : (4 : Int) < (m : Int) + 1 := by have := hmr.out; omega
  have hi5 : (5 : Int) < (m : Int) + 1 := by have := hmr.out; omega
  have hi6 : (6 : Int) < (m : Int) + 1 := by have := hmr.out; omega
  have hi7 : (7 : Int) < (m : Int) + 1 := by have := hmr.out; omega
  have hi8 : (8 : Int) < (m : Int) + 1 := by have := hmr.out; omega
  have hi9 : (9 : Int) < (m : Int) + 1 := by have := hmr.out; omega
  have hs := kw_6 hj
  go_enter Tryz.func26, Tryz.ntmps26
  go_upto_region 1 with (fail)
  generalize hW : World.alloc (World.alloc _ _) _ = W0
  obtain ⟨E0, z0, b0, b1⟩ := boxes2 hW
  clear hW z0
  replace b0 := hid (show Blk W0 (w.heap.size) [_] _ from b0)
  replace b1 := hid (show Blk W0 (w.heap.size + 1) (encEd zE) _ from b1)
  have hbH := hid (Nat.lt_of_lt_of_le hbw.out E0.le)
  have hbqH := hid (Nat.lt_of_lt_of_le hbqw.out E0.le)
  have vH0 := hid ((E0.cells _ _ hbqw.out).trans (get_i hv (k := 0) rfl))
  have vH1 := hid ((E0.cells _ _ hbqw.out).trans (get_i hv (k := 1) rfl))
  have vH2 := hid ((E0.cells _ _ hbqw.out).trans (get_i hv (k := 2) rfl))
  have vH3 := hid ((E0.cells _ _ hbqw.out).trans (get_i hv (k := 3) rfl))
  have vH4 := hid ((E0.cells _ _ hbqw.out).trans (get_i hv (k := 4) rfl))
  have vH5 := hid ((E0.cells _ _ hbqw.out).trans (get_i hv (k := 5) rfl))
  have vH6 := hid ((E0.cells _ _ hbqw.out).trans (get_i hv (k := 6) rfl))
  have vH7 := hid ((E0.cells _ _ hbqw.out).trans (get_i hv (k := 7) rfl))
  have vH8 := hid ((E0.cells _ _ hbqw.out).trans (get_i hv (k := 8) rfl))
  have wH0 := hid ((E0.cells _ _ hbw.out).trans (get_s hS (k := 0) rfl))
  have wH1 := hid ((E0.cells _ _ hbw.out).trans (get_s hS (k := 1) rfl))
  have wH2 := hid ((E0.cells _ _ hbw.out).trans (get_s hS (k := 2) rfl))
  have wH3 := hid ((E0.cells _ _ hbw.out).trans (get_s hS (k := 3) rfl))
  have wH4 := hid ((E0.cells _ _ hbw.out).trans (get_s hS (k := 4) rfl))
  have wH5 := hid ((E0.cells _ _ hbw.out).trans (get_s hS (k := 5) rfl))
  have wH6 := hid ((E0.cells _ _ hbw.out).trans (get_s hS (k := 6) rfl))
  have wH7 := hid ((E0.cells _ _ hbw.out).trans (get_s hS (k := 7) rfl))
  have wH8 := hid ((E0.cells _ _ hbw.out).trans (get_s hS (k := 8) rfl))
  have wH9 := hid ((E0.cells _ _ hbw.out).trans (get_s hS (k := 9) rfl))
  have ne1 : b ≠ W0.heap.size := by have := hbH.out; omega
  have ne2 : bq ≠ W0.heap.size := by have := hbqH.out; omega
  have ne3 : w.heap.size ≠ W0.heap.size := by have := b0.out.lt; omega
  have v0 := vH0.out
  rw [Nat.add_zero] at v0
  have hbq := hbqH.out
  clear hv
  go_upto_region 2 with (first | (refine wpList_build rfl 39 #[(1, .tmp 11)] rfl [(1, .int .i64 (kc : Int))] rfl (encEd ⟨0, (kc : Int), 0, emp, zS, zL, zI⟩).toArray (built_v _) ?_) | ((with_reducible refine at_store ?_); refine wpList_newEd rfl (Operand.tmp 7) (Operand.tmp 12) rfl ⟨0, (kc : Int), 0, emp, zS, zL, zI⟩ _ rfl rfl rfl ?_; intro W1 bO E9))
  clear v0 hbq
  replace bO := hid (show Blk W1 W0.heap.size [.int .i64 0, .int .i64 (kc : Int), .int .i64 0, .string ⟨#[]⟩, .int .i64 0, .int .i64 0, .int .i64 0, .int .i64 0, .int .i64 0, .int .i64 0, .int .i64 0, .int .i64 0, .string ⟨#[]⟩, .int .i64 0, .int .i64 0, .int .i64 0, .int .i64 0, .int .i64 0, .int .i64 0, .int .i64 0, .int .i64 0] 39 from bO)
  replace E9 := hid E9
  have x0 := (E9.out.cells _ _ b0.out.lt).trans (b0.out.cells 0)
  have l0 := Nat.lt_of_lt_of_le b0.out.lt E9.out.le
  simp only [List.getElem?_cons_zero] at x0
  have y2 := (E9.out.cells _ _ hbH.out).trans wH0.out
  have hb2 := Nat.lt_of_lt_of_le hbH.out E9.out.le
  rw [Nat.add_zero] at y2
  have v0 := (E9.out.cells _ _ hbqH.out).trans vH0.out
  have v1 := (E9.out.cells _ _ hbqH.out).trans vH1.out
  have v2 := (E9.out.cells _ _ hbqH.out).trans vH2.out
  have v3 := (E9.out.cells _ _ hbqH.out).trans vH3.out
  have v4 := (E9.out.cells _ _ hbqH.out).trans vH4.out
  have v5 := (E9.out.cells _ _ hbqH.out).trans vH5.out
  have v6 := (E9.out.cells _ _ hbqH.out).trans vH6.out
  have v7 := (E9.out.cells _ _ hbqH.out).trans vH7.out
  have v8 := (E9.out.cells _ _ hbqH.out).trans vH8.out
  rw [Nat.add_zero] at v0
  have hbq := Nat.lt_of_lt_of_le hbqH.out E9.out.le
  have z1 := (E9.out.cells _ _ hbH.out).trans wH1.out
  have z2 := (E9.out.cells _ _ hbH.out).trans wH2.out
  have z3 := (E9.out.cells _ _ hbH.out).trans wH3.out
  have z4 := (E9.out.cells _ _ hbH.out).trans wH4.out
  have z5 := (E9.out.cells _ _ hbH.out).trans wH5.out
  have z6 := (E9.out.cells _ _ hbH.out).trans wH6.out
  have z7 := (E9.out.cells _ _ hbH.out).trans wH7.out
  have z8 := (E9.out.cells _ _ hbH.out).trans wH8.out
  have z9 := (E9.out.cells _ _ hbH.out).trans wH9.out
  have gO : ∀ j, W1.cell? ⟨W0.heap.size, j, none⟩ = [.int .i64 0, .int .i64 (kc : Int), .int .i64 0, .string ⟨#[]⟩, .int .i64 0, .int .i64 0, .int .i64 0, .int .i64 0, .int .i64 0, .int .i64 0, .int .i64 0, .int .i64 0, .string ⟨#[]⟩, .int .i64 0, .int .i64 0, .int .i64 0, .int .i64 0, .int .i64 0, .int .i64 0, .int .i64 0, .int .i64 0][j]? := bO.out.cells
  have fO := bO.out.free
  have lO := bO.out.lt
  go_upto_region 12 with (fail)
  have hkn : kc < n := by have := (List.getElem?_eq_some_iff.1 hce).1; have := hl.out; omega
  have hknI : (kc : Int) < n := by omega
  obtain ⟨bl, ofl, ye, cs, hpl, hbl, hxl, hcs, hcl⟩ := (h.ext CeR.ok (E0.trans E9.out)).get hkn
  subst hpl
  obtain rfl : ce = ye := Option.some.inj (hce.symm.trans hxl.out)
  obtain ⟨p1, n1, c1, p2, n2, c2, p3, n3, c3, rfl, s1, s2, s3⟩ := hcs
  have c0 := hcl 0 _ rfl
  rw [Nat.add_zero] at c0
  have c10 := hcl 1 _ rfl
  have c20 := hcl 2 _ rfl
  have c30 := hcl 3 _ rfl
  have ln1 := hid s1.length
  have ln2 := hid s2.length
  have ln3 := hid s3.length
  clear hcl s1 s2 s3 hce hxl
  go_region
  clear gO fO lO x0 l0 y2 hb2 hbq v0 v1 v2 v3 v4 v5 v6 v7 v8 z1 z2 z3 z4 z5 z6 z7 z8 z9
  clear c0 c10 c20 c30 hbl
  have bO2 := Blk.drew (bO.out.alloc (.cells [.string ce.s, .slice p1 n1 c1, .slice p2 n2 c2, .slice p3 n3 c3].toArray 72))
  have bC2 := Blk.drew (Blk.new W1 [.string ce.s, .slice p1 n1 c1, .slice p2 n2 c2, .slice p3 n3 c3] 72)
  have E92 := Ext.drew (E9.out.alloc (.cells [.string ce.s, .slice p1 n1 c1, .slice p2 n2 c2, .slice p3 n3 c3].toArray 72))
  have neC := hid (show W1.heap.size ≠ W0.heap.size by have := bO.out.lt; omega)
  generalize hV : World.drew _ = Wc
  have bO3 := hid (show Blk Wc W0.heap.size [.int .i64 0, .int .i64 (kc : Int), .int .i64 0, .string ⟨#[]⟩, .int .i64 0, .int .i64 0, .int .i64 0, .int .i64 0, .int .i64 0, .int .i64 0, .int .i64 0, .int .i64 0, .string ⟨#[]⟩, .int .i64 0, .int .i64 0, .int .i64 0, .int .i64 0, .int .i64 0, .int .i64 0, .int .i64 0, .int .i64 0] 39 from by rw [← hV]; exact bO2)
  have bC3 := hid (show Blk Wc W1.heap.size [.string ce.s, .slice p1 n1 c1, .slice p2 n2 c2, .slice p3 n3 c3] 72 from by rw [← hV]; exact bC2)
  have E93 := hid (show Ext W0 Wc from by rw [← hV]; exact E92)
  clear hV bO E9 bO2 bC2 E92
  have bO := bO3
  have E9 := E93
  have bC := bC3
  clear bO3 bC3 E93
  have ne5 : W1.heap.size ≠ W0.heap.size := neC.out
  have x0 := (E9.out.cells _ _ b0.out.lt).trans (b0.out.cells 0)
  have l0 := Nat.lt_of_lt_of_le b0.out.lt E9.out.le
  simp only [List.getElem?_cons_zero] at x0
  have y2 := (E9.out.cells _ _ hbH.out).trans wH0.out
  have hb2 := Nat.lt_of_lt_of_le hbH.out E9.out.le
  rw [Nat.add_zero] at y2
  have v0 := (E9.out.cells _ _ hbqH.out).trans vH0.out
  have v1 := (E9.out.cells _ _ hbqH.out).trans vH1.out
  have v2 := (E9.out.cells _ _ hbqH.out).trans vH2.out
  have v3 := (E9.out.cells _ _ hbqH.out).trans vH3.out
  have v4 := (E9.out.cells _ _ hbqH.out).trans vH4.out
  have v5 := (E9.out.cells _ _ hbqH.out).trans vH5.out
  have v6 := (E9.out.cells _ _ hbqH.out).trans vH6.out
  have v7 := (E9.out.cells _ _ hbqH.out).trans vH7.out
  have v8 := (E9.out.cells _ _ hbqH.out).trans vH8.out
  rw [Nat.add_zero] at v0
  have hbq := Nat.lt_of_lt_of_le hbqH.out E9.out.le
  have z1 := (E9.out.cells _ _ hbH.out).trans wH1.out
  have z2 := (E9.out.cells _ _ hbH.out).trans wH2.out
  have z3 := (E9.out.cells _ _ hbH.out).trans wH3.out
  have z4 := (E9.out.cells _ _ hbH.out).trans wH4.out
  have z5 := (E9.out.cells _ _ hbH.out).trans wH5.out
  have z6 := (E9.out.cells _ _ hbH.out).trans wH6.out
  have z7 := (E9.out.cells _ _ hbH.out).trans wH7.out
  have z8 := (E9.out.cells _ _ hbH.out).trans wH8.out
  have z9 := (E9.out.cells _ _ hbH.out).trans wH9.out
  have gO : ∀ j, Wc.cell? ⟨W0.heap.size, j, none⟩ = [.int .i64 0, .int .i64 (kc : Int), .int .i64 0, .string ⟨#[]⟩, .int .i64 0, .int .i64 0, .int .i64 0, .int .i64 0, .int .i64 0, .int .i64 0, .int .i64 0, .int .i64 0, .string ⟨#[]⟩, .int .i64 0, .int .i64 0, .int .i64 0, .int .i64 0, .int .i64 0, .int .i64 0, .int .i64 0, .int .i64 0][j]? := bO.out.cells
  have fO := bO.out.free
  have lO := bO.out.lt
  have gC : ∀ j, Wc.cell? ⟨W1.heap.size, j, none⟩ = [.string ce.s, .slice p1 n1 c1, .slice p2 n2 c2, .slice p3 n3 c3][j]? := bC.out.cells
  have fC := bC.out.free
  have lC := bC.out.lt
  go_upto_region 27 with (fail)
  clear gO fO lO gC fC lC x0 l0 y2 hb2 hbq v0 v1 v2 v3 v4 v5 v6 v7 v8 z1 z2 z3 z4 z5 z6 z7 z8 z9
  have bO2 := (bO.out.set 0 (.int .i64 5))
  simp only [List.set_cons_zero, List.set_cons_succ] at bO2
  have bC2 := (bC.out.other (B := W0.heap.size) 0 (.int .i64 5) (by have := neC.out; omega))
  have E92 := (E9.out.setCell (p := ⟨W0.heap.size, 0, none⟩) (Nat.le_refl _) (.int .i64 5))
  generalize hV : World.setCell _ _ _ = Wn1
  have bO3 := hid (show Blk Wn1 W0.heap.size [.int .i64 5, .int .i64 (kc : Int), .int .i64 0, .string ⟨#[]⟩, .int .i64 0, .int .i64 0, .int .i64 0, .int .i64 0, .int .i64 0, .int .i64 0, .int .i64 0, .int .i64 0, .string ⟨#[]⟩, .int .i64 0, .int .i64 0, .int .i64 0, .int .i64 0, .int .i64 0, .int .i64 0, .int .i64 0, .int .i64 0] 39 from by rw [← hV]; exact bO2)
  have bC3 := hid (show Blk Wn1 (W1.heap.size) [.string ce.s, .slice p1 n1 c1, .slice p2 n2 c2, .slice p3 n3 c3] 72 from by rw [← hV]; exact bC2)
  have E93 := hid (show Ext W0 Wn1 from by rw [← hV]; exact E92)
  clear hV bO E9 bO2 E92 bC bC2
  have bO := bO3
  have E9 := E93
  clear bO3 E93
  have bC := bC3
  clear bC3
  have x0 := (E9.out.cells _ _ b0.out.lt).trans (b0.out.cells 0)
  have l0 := Nat.lt_of_lt_of_le b0.out.lt E9.out.le
  simp only [List.getElem?_cons_zero] at x0
  have y2 := (E9.out.cells _ _ hbH.out).trans wH0.out
  have hb2 := Nat.lt_of_lt_of_le hbH.out E9.out.le
  rw [Nat.add_zero] at y2
  have v0 := (E9.out.cells _ _ hbqH.out).trans vH0.out
  have v1 := (E9.out.cells _ _ hbqH.out).trans vH1.out
  have v2 := (E9.out.cells _ _ hbqH.out).trans vH2.out
  have v3 := (E9.out.cells _ _ hbqH.out).trans vH3.out
  have v4 := (E9.out.cells _ _ hbqH.out).trans vH4.out
  have v5 := (E9.out.cells _ _ hbqH.out).trans vH5.out
  have v6 := (E9.out.cells _ _ hbqH.out).trans vH6.out
  have v7 := (E9.out.cells _ _ hbqH.out).trans vH7.out
  have v8 := (E9.out.cells _ _ hbqH.out).trans vH8.out
  rw [Nat.add_zero] at v0
  have hbq := Nat.lt_of_lt_of_le hbqH.out E9.out.le
  have z1 := (E9.out.cells _ _ hbH.out).trans wH1.out
  have z2 := (E9.out.cells _ _ hbH.out).trans wH2.out
  have z3 := (E9.out.cells _ _ hbH.out).trans wH3.out
  have z4 := (E9.out.cells _ _ hbH.out).trans wH4.out
  have z5 := (E9.out.cells _ _ hbH.out).trans wH5.out
  have z6 := (E9.out.cells _ _ hbH.out).trans wH6.out
  have z7 := (E9.out.cells _ _ hbH.out).trans wH7.out
  have z8 := (E9.out.cells _ _ hbH.out).trans wH8.out
  have z9 := (E9.out.cells _ _ hbH.out).trans wH9.out
  have gO : ∀ j, Wn1.cell? ⟨W0.heap.size, j, none⟩ = [.int .i64 5, .int .i64 (kc : Int), .int .i64 0, .string ⟨#[]⟩, .int .i64 0, .int .i64 0, .int .i64 0, .int .i64 0, .int .i64 0, .int .i64 0, .int .i64 0, .int .i64 0, .string ⟨#[]⟩, .int .i64 0, .int .i64 0, .int .i64 0, .int .i64 0, .int .i64 0, .int .i64 0, .int .i64 0, .int .i64 0][j]? := bO.out.cells
  have fO := bO.out.free
  have lO := bO.out.lt
  have gC : ∀ j, Wn1.cell? ⟨W1.heap.size, j, none⟩ = [.string ce.s, .slice p1 n1 c1, .slice p2 n2 c2, .slice p3 n3 c3][j]? := bC.out.cells
  have fC := bC.out.free
  have lC := bC.out.lt
  go_upto_region 28 with (fail)
  clear gO fO lO gC fC lC x0 l0 y2 hb2 hbq v0 v1 v2 v3 v4 v5 v6 v7 v8 z1 z2 z3 z4 z5 z6 z7 z8 z9
  have bO2 := (bO.out.set 2 (.int .i64 (n3 : Int)))
  simp only [List.set_cons_zero, List.set_cons_succ] at bO2
  have bC2 := (bC.out.other (B := W0.heap.size) 2 (.int .i64 (n3 : Int)) (by have := neC.out; omega))
  have E92 := (E9.out.setCell (p := ⟨W0.heap.size, 2, none⟩) (Nat.le_refl _) (.int .i64 (n3 : Int)))
  generalize hV : World.setCell _ _ _ = Wn2
  have bO3 := hid (show Blk Wn2 W0.heap.size [.int .i64 5, .int .i64 (kc : Int), .int .i64 (n3 : Int), .string ⟨#[]⟩, .int .i64 0, .int .i64 0, .int .i64 0, .int .i64 0, .int .i64 0, .int .i64 0, .int .i64 0, .int .i64 0, .string ⟨#[]⟩, .int .i64 0, .int .i64 0, .int .i64 0, .int .i64 0, .int .i64 0, .int .i64 0, .int .i64 0, .int .i64 0] 39 from by rw [← hV]; exact bO2)
  have bC3 := hid (show Blk Wn2 (W1.heap.size) [.string ce.s, .slice p1 n1 c1, .slice p2 n2 c2, .slice p3 n3 c3] 72 from by rw [← hV]; exact bC2)
  have E93 := hid (show Ext W0 Wn2 from by rw [← hV]; exact E92)
  clear hV bO E9 bO2 E92 bC bC2
  have bO := bO3
  have E9 := E93
  clear bO3 E93
  have bC := bC3
  clear bC3
  have x0 := (E9.out.cells _ _ b0.out.lt).trans (b0.out.cells 0)
  have l0 := Nat.lt_of_lt_of_le b0.out.lt E9.out.le
  simp only [List.getElem?_cons_zero] at x0
  have y2 := (E9.out.cells _ _ hbH.out).trans wH0.out
  have hb2 := Nat.lt_of_lt_of_le hbH.out E9.out.le
  rw [Nat.add_zero] at y2
  have v0 := (E9.out.cells _ _ hbqH.out).trans vH0.out
  have v1 := (E9.out.cells _ _ hbqH.out).trans vH1.out
  have v2 := (E9.out.cells _ _ hbqH.out).trans vH2.out
  have v3 := (E9.out.cells _ _ hbqH.out).trans vH3.out
  have v4 := (E9.out.cells _ _ hbqH.out).trans vH4.out
  have v5 := (E9.out.cells _ _ hbqH.out).trans vH5.out
  have v6 := (E9.out.cells _ _ hbqH.out).trans vH6.out
  have v7 := (E9.out.cells _ _ hbqH.out).trans vH7.out
  have v8 := (E9.out.cells _ _ hbqH.out).trans vH8.out
  rw [Nat.add_zero] at v0
  have hbq := Nat.lt_of_lt_of_le hbqH.out E9.out.le
  have z1 := (E9.out.cells _ _ hbH.out).trans wH1.out
  have z2 := (E9.out.cells _ _ hbH.out).trans wH2.out
  have z3 := (E9.out.cells _ _ hbH.out).trans wH3.out
  have z4 := (E9.out.cells _ _ hbH.out).trans wH4.out
  have z5 := (E9.out.cells _ _ hbH.out).trans wH5.out
  have z6 := (E9.out.cells _ _ hbH.out).trans wH6.out
  have z7 := (E9.out.cells _ _ hbH.out).trans wH7.out
  have z8 := (E9.out.cells _ _ hbH.out).trans wH8.out
  have z9 := (E9.out.cells _ _ hbH.out).trans wH9.out
  have gO : ∀ j, Wn2.cell? ⟨W0.heap.size, j, none⟩ = [.int .i64 5, .int .i64 (kc : Int), .int .i64 (n3 : Int), .string ⟨#[]⟩, .int .i64 0, .int .i64 0, .int .i64 0, .int .i64 0, .int .i64 0, .int .i64 0, .int .i64 0, .int .i64 0, .string ⟨#[]⟩, .int .i64 0, .int .i64 0, .int .i64 0, .int .i64 0, .int .i64 0, .int .i64 0, .int .i64 0, .int .i64 0][j]? := bO.out.cells
  have fO := bO.out.free
  have lO := bO.out.lt
  have gC : ∀ j, Wn2.cell? ⟨W1.heap.size, j, none⟩ = [.string ce.s, .slice p1 n1 c1, .slice p2 n2 c2, .slice p3 n3 c3][j]? := bC.out.cells
  have fC := bC.out.free
  have lC := bC.out.lt
  go_upto_region 28 with (fail)
  refine wp_region_still_tail 15 (by kernel_rfl) (by kernel_rfl) ?_
  simp only [List.take_succ_cons, List.take_zero, List.drop_succ_cons, List.drop_zero]
  iterate 15 still_step
  refine wpStill_nil ?_
  change wpList _ _ _ _ _ Wn2.drew
  go_upto_region 29 with (fail)
  clear gO fO lO gC fC lC x0 l0 y2 hb2 hbq v0 v1 v2 v3 v4 v5 v6 v7 v8 z1 z2 z3 z4 z5 z6 z7 z8 z9
  have bO2 := Blk.drew ((((((((bO.out.set 13 (.int .i64 V2)).set 14 (.int .i64 V3)).set 15 (.int .i64 V4)).set 16 (.int .i64 V5)).set 17 (.int .i64 1)).set 18 (.int .i64 1)).set 19 (.int .i64 0)).set 20 (.int .i64 0))
  simp only [List.set_cons_zero, List.set_cons_succ] at bO2
  have bC2 := Blk.drew ((((((((bC.out.other (B := W0.heap.size) 13 (.int .i64 V2) (by have := neC.out; omega)).other (B := W0.heap.size) 14 (.int .i64 V3) (by have := neC.out; omega)).other (B := W0.heap.size) 15 (.int .i64 V4) (by have := neC.out; omega)).other (B := W0.heap.size) 16 (.int .i64 V5) (by have := neC.out; omega)).other (B := W0.heap.size) 17 (.int .i64 1) (by have := neC.out; omega)).other (B := W0.heap.size) 18 (.int .i64 1) (by have := neC.out; omega)).other (B := W0.heap.size) 19 (.int .i64 0) (by have := neC.out; omega)).other (B := W0.heap.size) 20 (.int .i64 0) (by have := neC.out; omega))
  have E92 := Ext.drew ((((((((E9.out.setCell (p := ⟨W0.heap.size, 13, none⟩) (Nat.le_refl _) (.int .i64 V2)).setCell (p := ⟨W0.heap.size, 14, none⟩) (Nat.le_refl _) (.int .i64 V3)).setCell (p := ⟨W0.heap.size, 15, none⟩) (Nat.le_refl _) (.int .i64 V4)).setCell (p := ⟨W0.heap.size, 16, none⟩) (Nat.le_refl _) (.int .i64 V5)).setCell (p := ⟨W0.heap.size, 17, none⟩) (Nat.le_refl _) (.int .i64 1)).setCell (p := ⟨W0.heap.size, 18, none⟩) (Nat.le_refl _) (.int .i64 1)).setCell (p := ⟨W0.heap.size, 19, none⟩) (Nat.le_refl _) (.int .i64 0)).setCell (p := ⟨W0.heap.size, 20, none⟩) (Nat.le_refl _) (.int .i64 0))
  generalize hV : World.drew _ = Wn3
  have bO3 := hid (show Blk Wn3 W0.heap.size [.int .i64 5, .int .i64 (kc : Int), .int .i64 (n3 : Int), .string ⟨#[]⟩, .int .i64 0, .int .i64 0, .int .i64 0, .int .i64 0, .int .i64 0, .int .i64 0, .int .i64 0, .int .i64 0, .string ⟨#[]⟩, .int .i64 V2, .int .i64 V3, .int .i64 V4, .int .i64 V5, .int .i64 1, .int .i64 1, .int .i64 0, .int .i64 0] 39 from by rw [← hV]; exact bO2)
  have bC3 := hid (show Blk Wn3 (W1.heap.size) [.string ce.s, .slice p1 n1 c1, .slice p2 n2 c2, .slice p3 n3 c3] 72 from by rw [← hV]; exact bC2)
  have E93 := hid (show Ext W0 Wn3 from by rw [← hV]; exact E92)
  clear hV bO E9 bO2 E92 bC bC2
  have bO := bO3
  have E9 := E93
  clear bO3 E93
  have bC := bC3
  clear bC3
  have x0 := (E9.out.cells _ _ b0.out.lt).trans (b0.out.cells 0)
  have l0 := Nat.lt_of_lt_of_le b0.out.lt E9.out.le
  simp only [List.getElem?_cons_zero] at x0
  have y2 := (E9.out.cells _ _ hbH.out).trans wH0.out
  have hb2 := Nat.lt_of_lt_of_le hbH.out E9.out.le
  rw [Nat.add_zero] at y2
  have v0 := (E9.out.cells _ _ hbqH.out).trans vH0.out
  have v1 := (E9.out.cells _ _ hbqH.out).trans vH1.out
  have v2 := (E9.out.cells _ _ hbqH.out).trans vH2.out
  have v3 := (E9.out.cells _ _ hbqH.out).trans vH3.out
  have v4 := (E9.out.cells _ _ hbqH.out).trans vH4.out
  have v5 := (E9.out.cells _ _ hbqH.out).trans vH5.out
  have v6 := (E9.out.cells _ _ hbqH.out).trans vH6.out
  have v7 := (E9.out.cells _ _ hbqH.out).trans vH7.out
  have v8 := (E9.out.cells _ _ hbqH.out).trans vH8.out
  rw [Nat.add_zero] at v0
  have hbq := Nat.lt_of_lt_of_le hbqH.out E9.out.le
  have z1 := (E9.out.cells _ _ hbH.out).trans wH1.out
  have z2 := (E9.out.cells _ _ hbH.out).trans wH2.out
  have z3 := (E9.out.cells _ _ hbH.out).trans wH3.out
  have z4 := (E9.out.cells _ _ hbH.out).trans wH4.out
  have z5 := (E9.out.cells _ _ hbH.out).trans wH5.out
  have z6 := (E9.out.cells _ _ hbH.out).trans wH6.out
  have z7 := (E9.out.cells _ _ hbH.out).trans wH7.out
  have z8 := (E9.out.cells _ _ hbH.out).trans wH8.out
  have z9 := (E9.out.cells _ _ hbH.out).trans wH9.out
  have gO : ∀ j, Wn3.cell? ⟨W0.heap.size, j, none⟩ = [.int .i64 5, .int .i64 (kc : Int), .int .i64 (n3 : Int), .string ⟨#[]⟩, .int .i64 0, .int .i64 0, .int .i64 0, .int .i64 0, .int .i64 0, .int .i64 0, .int .i64 0, .int .i64 0, .string ⟨#[]⟩, .int .i64 V2, .int .i64 V3, .int .i64 V4, .int .i64 V5, .int .i64 1, .int .i64 1, .int .i64 0, .int .i64 0][j]? := bO.out.cells
  have fO := bO.out.free
  have lO := bO.out.lt
  have gC : ∀ j, Wn3.cell? ⟨W1.heap.size, j, none⟩ = [.string ce.s, .slice p1 n1 c1, .slice p2 n2 c2, .slice p3 n3 c3][j]? := bC.out.cells
  have fC := bC.out.free
  have lC := bC.out.lt
  go_upto_region 31 with (fail)
  clear gO fO lO gC fC lC x0 l0 y2 hb2 hbq v0 v1 v2 v3 v4 v5 v6 v7 v8 z1 z2 z3 z4 z5 z6 z7 z8 z9
  have bO2 := (bO.out.set 17 (.int .i64 V6))
  simp only [List.set_cons_zero, List.set_cons_succ] at bO2
  have bC2 := (bC.out.other (B := W0.heap.size) 17 (.int .i64 V6) (by have := neC.out; omega))
  have E92 := (E9.out.setCell (p := ⟨W0.heap.size, 17, none⟩) (Nat.le_refl _) (.int .i64 V6))
  generalize hV : World.setCell _ _ _ = Wn4
  have bO3 := hid (show Blk Wn4 W0.heap.size [.int .i64 5, .int .i64 (kc : Int), .int .i64 (n3 : Int), .string ⟨#[]⟩, .int .i64 0, .int .i64 0, .int .i64 0, .int .i64 0, .int .i64 0, .int .i64 0, .int .i64 0, .int .i64 0, .string ⟨#[]⟩, .int .i64 V2, .int .i64 V3, .int .i64 V4, .int .i64 V5, .int .i64 V6, .int .i64 1, .int .i64 0, .int .i64 0] 39 from by rw [← hV]; exact bO2)
  have bC3 := hid (show Blk Wn4 (W1.heap.size) [.string ce.s, .slice p1 n1 c1, .slice p2 n2 c2, .slice p3 n3 c3] 72 from by rw [← hV]; exact bC2)
  have E93 := hid (show Ext W0 Wn4 from by rw [← hV]; exact E92)
  clear hV bO E9 bO2 E92 bC bC2
  have bO := bO3
  have E9 := E93
  clear bO3 E93
  have bC := bC3
  clear bC3
  have x0 := (E9.out.cells _ _ b0.out.lt).trans (b0.out.cells 0)
  have l0 := Nat.lt_of_lt_of_le b0.out.lt E9.out.le
  simp only [List.getElem?_cons_zero] at x0
  have y2 := (E9.out.cells _ _ hbH.out).trans wH0.out
  have hb2 := Nat.lt_of_lt_of_le hbH.out E9.out.le
  rw [Nat.add_zero] at y2
  have v0 := (E9.out.cells _ _ hbqH.out).trans vH0.out
  have v1 := (E9.out.cells _ _ hbqH.out).trans vH1.out
  have v2 := (E9.out.cells _ _ hbqH.out).trans vH2.out
  have v3 := (E9.out.cells _ _ hbqH.out).trans vH3.out
  have v4 := (E9.out.cells _ _ hbqH.out).trans vH4.out
  have v5 := (E9.out.cells _ _ hbqH.out).trans vH5.out
  have v6 := (E9.out.cells _ _ hbqH.out).trans vH6.out
  have v7 := (E9.out.cells _ _ hbqH.out).trans vH7.out
  have v8 := (E9.out.cells _ _ hbqH.out).trans vH8.out
  rw [Nat.add_zero] at v0
  have hbq := Nat.lt_of_lt_of_le hbqH.out E9.out.le
  have z1 := (E9.out.cells _ _ hbH.out).trans wH1.out
  have z2 := (E9.out.cells _ _ hbH.out).trans wH2.out
  have z3 := (E9.out.cells _ _ hbH.out).trans wH3.out
  have z4 := (E9.out.cells _ _ hbH.out).trans wH4.out
  have z5 := (E9.out.cells _ _ hbH.out).trans wH5.out
  have z6 := (E9.out.cells _ _ hbH.out).trans wH6.out
  have z7 := (E9.out.cells _ _ hbH.out).trans wH7.out
  have z8 := (E9.out.cells _ _ hbH.out).trans wH8.out
  have z9 := (E9.out.cells _ _ hbH.out).trans wH9.out
  have gO : ∀ j, Wn4.cell? ⟨W0.heap.size, j, none⟩ = [.int .i64 5, .int .i64 (kc : Int), .int .i64 (n3 : Int), .string ⟨#[]⟩, .int .i64 0, .int .i64 0, .int .i64 0, .int .i64 0, .int .i64 0, .int .i64 0, .int .i64 0, .int .i64 0, .string ⟨#[]⟩, .int .i64 V2, .int .i64 V3, .int .i64 V4, .int .i64 V5, .int .i64 V6, .int .i64 1, .int .i64 0, .int .i64 0][j]? := bO.out.cells
  have fO := bO.out.free
  have lO := bO.out.lt
  have gC : ∀ j, Wn4.cell? ⟨W1.heap.size, j, none⟩ = [.string ce.s, .slice p1 n1 c1, .slice p2 n2 c2, .slice p3 n3 c3][j]? := bC.out.cells
  have fC := bC.out.free
  have lC := bC.out.lt
  go_upto_region 32 with (fail)
  clear gO fO lO gC fC lC x0 l0 y2 hb2 hbq v0 v1 v2 v3 v4 v5 v6 v7 v8 z1 z2 z3 z4 z5 z6 z7 z8 z9
  have bO2 := (bO.out.set 18 (.int .i64 V7))
  simp only [List.set_cons_zero, List.set_cons_succ] at bO2
  have bC2 := (bC.out.other (B := W0.heap.size) 18 (.int .i64 V7) (by have := neC.out; omega))
  have E92 := (E9.out.setCell (p := ⟨W0.heap.size, 18, none⟩) (Nat.le_refl _) (.int .i64 V7))
  generalize hV : World.setCell _ _ _ = Wn5
  have bO3 := hid (show Blk Wn5 W0.heap.size [.int .i64 5, .int .i64 (kc : Int), .int .i64 (n3 : Int), .string ⟨#[]⟩, .int .i64 0, .int .i64 0, .int .i64 0, .int .i64 0, .int .i64 0, .int .i64 0, .int .i64 0, .int .i64 0, .string ⟨#[]⟩, .int .i64 V2, .int .i64 V3, .int .i64 V4, .int .i64 V5, .int .i64 V6, .int .i64 V7, .int .i64 0, .int .i64 0] 39 from by rw [← hV]; exact bO2)
  have bC3 := hid (show Blk Wn5 (W1.heap.size) [.string ce.s, .slice p1 n1 c1, .slice p2 n2 c2, .slice p3 n3 c3] 72 from by rw [← hV]; exact bC2)
  have E93 := hid (show Ext W0 Wn5 from by rw [← hV]; exact E92)
  clear hV bO E9 bO2 E92 bC bC2
  have bO := bO3
  have E9 := E93
  clear bO3 E93
  have bC := bC3
  clear bC3
  have x0 := (E9.out.cells _ _ b0.out.lt).trans (b0.out.cells 0)
  have l0 := Nat.lt_of_lt_of_le b0.out.lt E9.out.le
  simp only [List.getElem?_cons_zero] at x0
  have y2 := (E9.out.cells _ _ hbH.out).trans wH0.out
  have hb2 := Nat.lt_of_lt_of_le hbH.out E9.out.le
  rw [Nat.add_zero] at y2
  have v0 := (E9.out.cells _ _ hbqH.out).trans vH0.out
  have v1 := (E9.out.cells _ _ hbqH.out).trans vH1.out
  have v2 := (E9.out.cells _ _ hbqH.out).trans vH2.out
  have v3 := (E9.out.cells _ _ hbqH.out).trans vH3.out
  have v4 := (E9.out.cells _ _ hbqH.out).trans vH4.out
  have v5 := (E9.out.cells _ _ hbqH.out).trans vH5.out
  have v6 := (E9.out.cells _ _ hbqH.out).trans vH6.out
  have v7 := (E9.out.cells _ _ hbqH.out).trans vH7.out
  have v8 := (E9.out.cells _ _ hbqH.out).trans vH8.out
  rw [Nat.add_zero] at v0
  have hbq := Nat.lt_of_lt_of_le hbqH.out E9.out.le
  have z1 := (E9.out.cells _ _ hbH.out).trans wH1.out
  have z2 := (E9.out.cells _ _ hbH.out).trans wH2.out
  have z3 := (E9.out.cells _ _ hbH.out).trans wH3.out
  have z4 := (E9.out.cells _ _ hbH.out).trans wH4.out
  have z5 := (E9.out.cells _ _ hbH.out).trans wH5.out
  have z6 := (E9.out.cells _ _ hbH.out).trans wH6.out
  have z7 := (E9.out.cells _ _ hbH.out).trans wH7.out
  have z8 := (E9.out.cells _ _ hbH.out).trans wH8.out
  have z9 := (E9.out.cells _ _ hbH.out).trans wH9.out
  have gO : ∀ j, Wn5.cell? ⟨W0.heap.size, j, none⟩ = [.int .i64 5, .int .i64 (kc : Int), .int .i64 (n3 : Int), .string ⟨#[]⟩, .int .i64 0, .int .i64 0, .int .i64 0, .int .i64 0, .int .i64 0, .int .i64 0, .int .i64 0, .int .i64 0, .string ⟨#[]⟩, .int .i64 V2, .int .i64 V3, .int .i64 V4, .int .i64 V5, .int .i64 V6, .int .i64 V7, .int .i64 0, .int .i64 0][j]? := bO.out.cells
  have fO := bO.out.free
  have lO := bO.out.lt
  have gC : ∀ j, Wn5.cell? ⟨W1.heap.size, j, none⟩ = [.string ce.s, .slice p1 n1 c1, .slice p2 n2 c2, .slice p3 n3 c3][j]? := bC.out.cells
  have fC := bC.out.free
  have lC := bC.out.lt
  go_upto_region 33 with (fail)
  clear gO fO lO gC fC lC x0 l0 y2 hb2 hbq v0 v1 v2 v3 v4 v5 v6 v7 v8 z1 z2 z3 z4 z5 z6 z7 z8 z9
  have bO2 := (bO.out.set 19 (.int .i64 V8))
  simp only [List.set_cons_zero, List.set_cons_succ] at bO2
  have bC2 := (bC.out.other (B := W0.heap.size) 19 (.int .i64 V8) (by have := neC.out; omega))
  have E92 := (E9.out.setCell (p := ⟨W0.heap.size, 19, none⟩) (Nat.le_refl _) (.int .i64 V8))
  generalize hV : World.setCell _ _ _ = Wn6
  have bO3 := hid (show Blk Wn6 W0.heap.size [.int .i64 5, .int .i64 (kc : Int), .int .i64 (n3 : Int), .string ⟨#[]⟩, .int .i64 0, .int .i64 0, .int .i64 0, .int .i64 0, .int .i64 0, .int .i64 0, .int .i64 0, .int .i64 0, .string ⟨#[]⟩, .int .i64 V2, .int .i64 V3, .int .i64 V4, .int .i64 V5, .int .i64 V6, .int .i64 V7, .int .i64 V8, .int .i64 0] 39 from by rw [← hV]; exact bO2)
  have bC3 := hid (show Blk Wn6 (W1.heap.size) [.string ce.s, .slice p1 n1 c1, .slice p2 n2 c2, .slice p3 n3 c3] 72 from by rw [← hV]; exact bC2)
  have E93 := hid (show Ext W0 Wn6 from by rw [← hV]; exact E92)
  clear hV bO E9 bO2 E92 bC bC2
  have bO := bO3
  have E9 := E93
  clear bO3 E93
  have bC := bC3
  clear bC3
  have x0 := (E9.out.cells _ _ b0.out.lt).trans (b0.out.cells 0)
  have l0 := Nat.lt_of_lt_of_le b0.out.lt E9.out.le
  simp only [List.getElem?_cons_zero] at x0
  have y2 := (E9.out.cells _ _ hbH.out).trans wH0.out
  have hb2 := Nat.lt_of_lt_of_le hbH.out E9.out.le
  rw [Nat.add_zero] at y2
  have v0 := (E9.out.cells _ _ hbqH.out).trans vH0.out
  have v1 := (E9.out.cells _ _ hbqH.out).trans vH1.out
  have v2 := (E9.out.cells _ _ hbqH.out).trans vH2.out
  have v3 := (E9.out.cells _ _ hbqH.out).trans vH3.out
  have v4 := (E9.out.cells _ _ hbqH.out).trans vH4.out
  have v5 := (E9.out.cells _ _ hbqH.out).trans vH5.out
  have v6 := (E9.out.cells _ _ hbqH.out).trans vH6.out
  have v7 := (E9.out.cells _ _ hbqH.out).trans vH7.out
  have v8 := (E9.out.cells _ _ hbqH.out).trans vH8.out
  rw [Nat.add_zero] at v0
  have hbq := Nat.lt_of_lt_of_le hbqH.out E9.out.le
  have z1 := (E9.out.cells _ _ hbH.out).trans wH1.out
  have z2 := (E9.out.cells _ _ hbH.out).trans wH2.out
  have z3 := (E9.out.cells _ _ hbH.out).trans wH3.out
  have z4 := (E9.out.cells _ _ hbH.out).trans wH4.out
  have z5 := (E9.out.cells _ _ hbH.out).trans wH5.out
  have z6 := (E9.out.cells _ _ hbH.out).trans wH6.out
  have z7 := (E9.out.cells _ _ hbH.out).trans wH7.out
  have z8 := (E9.out.cells _ _ hbH.out).trans wH8.out
  have z9 := (E9.out.cells _ _ hbH.out).trans wH9.out
  have gO : ∀ j, Wn6.cell? ⟨W0.heap.size, j, none⟩ = [.int .i64 5, .int .i64 (kc : Int), .int .i64 (n3 : Int), .string ⟨#[]⟩, .int .i64 0, .int .i64 0, .int .i64 0, .int .i64 0, .int .i64 0, .int .i64 0, .int .i64 0, .int .i64 0, .string ⟨#[]⟩, .int .i64 V2, .int .i64 V3, .int .i64 V4, .int .i64 V5, .int .i64 V6, .int .i64 V7, .int .i64 V8, .int .i64 0][j]? := bO.out.cells
  have fO := bO.out.free
  have lO := bO.out.lt
  have gC : ∀ j, Wn6.cell? ⟨W1.heap.size, j, none⟩ = [.string ce.s, .slice p1 n1 c1, .slice p2 n2 c2, .slice p3 n3 c3][j]? := bC.out.cells
  have fC := bC.out.free
  have lC := bC.out.lt
  go_upto_region 40 with (fail)
  clear gO fO lO gC fC lC x0 l0 y2 hb2 hbq v0 v1 v2 v3 v4 v5 v6 v7 v8 z1 z2 z3 z4 z5 z6 z7 z8 z9
  have bO2 := (bO.out.set 20 (.int .i64 V9))
  simp only [List.set_cons_zero, List.set_cons_succ] at bO2
  have bC2 := (bC.out.other (B := W0.heap.size) 20 (.int .i64 V9) (by have := neC.out; omega))
  have E92 := (E9.out.setCell (p := ⟨W0.heap.size, 20, none⟩) (Nat.le_refl _) (.int .i64 V9))
  generalize hV : World.setCell _ _ _ = Wn7
  have bO3 := hid (show Blk Wn7 W0.heap.size [.int .i64 5, .int .i64 (kc : Int), .int .i64 (n3 : Int), .string ⟨#[]⟩, .int .i64 0, .int .i64 0, .int .i64 0, .int .i64 0, .int .i64 0, .int .i64 0, .int .i64 0, .int .i64 0, .string ⟨#[]⟩, .int .i64 V2, .int .i64 V3, .int .i64 V4, .int .i64 V5, .int .i64 V6, .int .i64 V7, .int .i64 V8, .int .i64 V9] 39 from by rw [← hV]; exact bO2)
  have bC3 := hid (show Blk Wn7 (W1.heap.size) [.string ce.s, .slice p1 n1 c1, .slice p2 n2 c2, .slice p3 n3 c3] 72 from by rw [← hV]; exact bC2)
  have E93 := hid (show Ext W0 Wn7 from by rw [← hV]; exact E92)
  clear hV bO E9 bO2 E92 bC bC2
  have bO := bO3
  have E9 := E93
  clear bO3 E93
  have bC := bC3
  clear bC3
  have x0 := (E9.out.cells _ _ b0.out.lt).trans (b0.out.cells 0)
  have l0 := Nat.lt_of_lt_of_le b0.out.lt E9.out.le
  simp only [List.getElem?_cons_zero] at x0
  have y2 := (E9.out.cells _ _ hbH.out).trans wH0.out
  have hb2 := Nat.lt_of_lt_of_le hbH.out E9.out.le
  rw [Nat.add_zero] at y2
  have v0 := (E9.out.cells _ _ hbqH.out).trans vH0.out
  have v1 := (E9.out.cells _ _ hbqH.out).trans vH1.out
  have v2 := (E9.out.cells _ _ hbqH.out).trans vH2.out
  have v3 := (E9.out.cells _ _ hbqH.out).trans vH3.out
  have v4 := (E9.out.cells _ _ hbqH.out).trans vH4.out
  have v5 := (E9.out.cells _ _ hbqH.out).trans vH5.out
  have v6 := (E9.out.cells _ _ hbqH.out).trans vH6.out
  have v7 := (E9.out.cells _ _ hbqH.out).trans vH7.out
  have v8 := (E9.out.cells _ _ hbqH.out).trans vH8.out
  rw [Nat.add_zero] at v0
  have hbq := Nat.lt_of_lt_of_le hbqH.out E9.out.le
  have z1 := (E9.out.cells _ _ hbH.out).trans wH1.out
  have z2 := (E9.out.cells _ _ hbH.out).trans wH2.out
  have z3 := (E9.out.cells _ _ hbH.out).trans wH3.out
  have z4 := (E9.out.cells _ _ hbH.out).trans wH4.out
  have z5 := (E9.out.cells _ _ hbH.out).trans wH5.out
  have z6 := (E9.out.cells _ _ hbH.out).trans wH6.out
  have z7 := (E9.out.cells _ _ hbH.out).trans wH7.out
  have z8 := (E9.out.cells _ _ hbH.out).trans wH8.out
  have z9 := (E9.out.cells _ _ hbH.out).trans wH9.out
  have gO : ∀ j, Wn7.cell? ⟨W0.heap.size, j, none⟩ = [.int .i64 5, .int .i64 (kc : Int), .int .i64 (n3 : Int), .string ⟨#[]⟩, .int .i64 0, .int .i64 0, .int .i64 0, .int .i64 0, .int .i64 0, .int .i64 0, .int .i64 0, .int .i64 0, .string ⟨#[]⟩, .int .i64 V2, .int .i64 V3, .int .i64 V4, .int .i64 V5, .int .i64 V6, .int .i64 V7, .int .i64 V8, .int .i64 V9][j]? := bO.out.cells
  have fO := bO.out.free
  have lO := bO.out.lt
  have gC : ∀ j, Wn7.cell? ⟨W1.heap.size, j, none⟩ = [.string ce.s, .slice p1 n1 c1, .slice p2 n2 c2, .slice p3 n3 c3][j]? := bC.out.cells
  have fC := bC.out.free
  have lC := bC.out.lt
  clear gO fO lO gC fC lC x0 l0 y2 hb2 hbq v0 v1 v2 v3 v4 v5 v6 v7 v8 z1 z2 z3 z4 z5 z6 z7 z8 z9
  have bE := hid (show Blk Wn7 W0.heap.size (encEd ⟨5, (kc : Int), (ce.ins.length : Int), emp, zS, zL, ⟨V2, ⟨V3, V4, V5⟩, V6, V7, V8, V9⟩⟩) 39 from by rw [ln3.out]; exact bO.out)
  have rE := hid (range_blk bE.out)
  have r1 := hid (there_blk (b1.out.ext E9.out))
  go_wp2_with (first | ((with_reducible refine at_dst 160 ?_); refine wpList_load_mid rfl 39 (Operand.tmp 7) rfl (W0.heap.size) 0 rfl (encEd ⟨5, (kc : Int), (ce.ins.length : Int), emp, zS, zL, ⟨V2, ⟨V3, V4, V5⟩, V6, V7, V8, V9⟩⟩) _ rE.out Tryz.underlying39 rfl (sz_Ed2 _) ?_) | ((with_reducible refine at_store ?_); refine wpList_store_mid rfl 39 (Operand.tmp 6) _ rfl (w.heap.size + 1) 0 (encEd ⟨5, (kc : Int), (ce.ins.length : Int), emp, zS, zL, ⟨V2, ⟨V3, V4, V5⟩, V6, V7, V8, V9⟩⟩).toArray rfl rfl r1.out (sz_Ed _) (one_Edit _) ?_))
  generalize hV9 : World.setCells _ _ _ _ = W9
  have kB : Blk W9 (w.heap.size + 1) (encEd ⟨5, (kc : Int), (ce.ins.length : Int), emp, zS, zL, ⟨V2, ⟨V3, V4, V5⟩, V6, V7, V8, V9⟩⟩) 39 := by rw [← hV9]; exact (b1.out.ext E9.out).setAll (vs := encEd ⟨5, (kc : Int), (ce.ins.length : Int), emp, zS, zL, ⟨V2, ⟨V3, V4, V5⟩, V6, V7, V8, V9⟩⟩) rfl
  have hE2 : Ext w W9 := by rw [← hV9]; exact ext_setCells (by omega) _ _ _ (E0.trans E9.out)
  clear hV9
  exact bodyPost_ret (v := .agg (encEd ⟨5, (kc : Int), (ce.ins.length : Int), emp, zS, zL, ⟨V2, ⟨V3, V4, V5⟩, V6, V7, V8, V9⟩⟩).toArray) (results_cell_row Tryz.results26 _ _ (w.heap.size + 1) 39 (encEd ⟨5, (kc : Int), (ce.ins.length : Int), emp, zS, zL, ⟨V2, ⟨V3, V4, V5⟩, V6, V7, V8, V9⟩⟩).toArray (0, 0) _ rfl kB Tryz.underlying39 rfl (sz_Ed _)) rfl ⟨rfl, hE2⟩

set_option maxRecDepth 100000 in
set_option maxHeartbeats 4000000 in
theorem rEdit_7 (s : ByteArray) (a1 a2 : ByteArray) (V2 : Int) (kc : Nat) (ce : CeD) (l : List CeD) (p : Option Addr) (b off bq oq : Nat) (n c m d d3 base base2 base3 : Nat) (w : World) (h : SlD CeR 4 base w p n l) (hn : n ≤ 1048576) (hS : SlD (Fl encW) 1 base2 w (some ⟨b, off, none⟩) (m + 1) [s, a1, a2]) (hv : SlD (Fl enc1) 1 base3 w (some ⟨bq, oq, none⟩) 2 [(kc : Int), V2]) (hj : kwX s = some 7) (hce : l[kc]? = some ce) :
    Calls Tryz.prog 26 #[.agg #[.slice p n c], .slice (some ⟨b, off, none⟩) (m + 1) d, .slice (some ⟨bq, oq, none⟩) 2 d3] w fun e w' => e = .returned (.agg (encEd ⟨2, (kc : Int), V2, emp, zS, zL, zI⟩).toArray) ∧ Ext w w' := by
  have hl := hid h.length
  have hmr := hid (show m = 2 by have := hS.length; simpa using this.symm)
  have hbw := hid (show b < w.heap.size by obtain ⟨b', o', h1, h2⟩ := slice_at hS (by omega); cases h1; exact h2)
  have hbqw := hid (show bq < w.heap.size by obtain ⟨b', o', h1, h2⟩ := slice_at hv (by omega); cases h1; exact h2)
  have hm0 : (0 : Int) < (m : Int) + 1 := by omega
  have hm9 : (0 : Int) < ((m + 1 : Nat) : Int) := by omega
  have hi1 : (1 : Int) < (m : Int) + 1 := by have := hmr.out; omega
  have hi2 : (2 : Int) < (m : Int) + 1 := by have := hmr.out; omega
  have hs := kw_7 hj
  go_enter Tryz.func26, Tryz.ntmps26
  go_upto_region 1 with (fail)
  generalize hW : World.alloc (World.alloc _ _) _ = W0
  obtain ⟨E0, z0, b0, b1⟩ := boxes2 hW
  clear hW z0
  replace b0 := hid (show Blk W0 (w.heap.size) [_] _ from b0)
  replace b1 := hid (show Blk W0 (w.heap.size + 1) (encEd zE) _ from b1)
  have hbH := hid (Nat.lt_of_lt_of_le hbw.out E0.le)
  have hbqH := hid (Nat.lt_of_lt_of_le hbqw.out E0.le)
  have vH0 := hid ((E0.cells _ _ hbqw.out).trans (get_i hv (k := 0) rfl))
  have vH1 := hid ((E0.cells _ _ hbqw.out).trans (get_i hv (k := 1) rfl))
  have wH0 := hid ((E0.cells _ _ hbw.out).trans (get_s hS (k := 0) rfl))
  have wH1 := hid ((E0.cells _ _ hbw.out).trans (get_s hS (k := 1) rfl))
  have wH2 := hid ((E0.cells _ _ hbw.out).trans (get_s hS (k := 2) rfl))
  have ne1 : b ≠ W0.heap.size := by have := hbH.out; omega
  have ne2 : bq ≠ W0.heap.size := by have := hbqH.out; omega
  have ne3 : w.heap.size ≠ W0.heap.size := by have := b0.out.lt; omega
  have v0 := vH0.out
  rw [Nat.add_zero] at v0
  have hbq := hbqH.out
  clear hv
  go_upto_region 2 with (first | (refine wpList_build rfl 39 #[(1, .tmp 11)] rfl [(1, .int .i64 (kc : Int))] rfl (encEd ⟨0, (kc : Int), 0, emp, zS, zL, zI⟩).toArray (built_v _) ?_) | ((with_reducible refine at_store ?_); refine wpList_newEd rfl (Operand.tmp 7) (Operand.tmp 12) rfl ⟨0, (kc : Int), 0, emp, zS, zL, zI⟩ _ rfl rfl rfl ?_; intro W1 bO E9))
  clear v0 hbq
  replace bO := hid (show Blk W1 W0.heap.size [.int .i64 0, .int .i64 (kc : Int), .int .i64 0, .string ⟨#[]⟩, .int .i64 0, .int .i64 0, .int .i64 0, .int .i64 0, .int .i64 0, .int .i64 0, .int .i64 0, .int .i64 0, .string ⟨#[]⟩, .int .i64 0, .int .i64 0, .int .i64 0, .int .i64 0, .int .i64 0, .int .i64 0, .int .i64 0, .int .i64 0] 39 from bO)
  replace E9 := hid E9
  have x0 := (E9.out.cells _ _ b0.out.lt).trans (b0.out.cells 0)
  have l0 := Nat.lt_of_lt_of_le b0.out.lt E9.out.le
  simp only [List.getElem?_cons_zero] at x0
  have y2 := (E9.out.cells _ _ hbH.out).trans wH0.out
  have hb2 := Nat.lt_of_lt_of_le hbH.out E9.out.le
  rw [Nat.add_zero] at y2
  have v0 := (E9.out.cells _ _ hbqH.out).trans vH0.out
  have v1 := (E9.out.cells _ _ hbqH.out).trans vH1.out
  rw [Nat.add_zero] at v0
  have hbq := Nat.lt_of_lt_of_le hbqH.out E9.out.le
  have z1 := (E9.out.cells _ _ hbH.out).trans wH1.out
  have z2 := (E9.out.cells _ _ hbH.out).trans wH2.out
  have gO : ∀ j, W1.cell? ⟨W0.heap.size, j, none⟩ = [.int .i64 0, .int .i64 (kc : Int), .int .i64 0, .string ⟨#[]⟩, .int .i64 0, .int .i64 0, .int .i64 0, .int .i64 0, .int .i64 0, .int .i64 0, .int .i64 0, .int .i64 0, .string ⟨#[]⟩, .int .i64 0, .int .i64 0, .int .i64 0, .int .i64 0, .int .i64 0, .int .i64 0, .int .i64 0, .int .i64 0][j]? := bO.out.cells
  have fO := bO.out.free
  have lO := bO.out.lt
  go_upto_region 12 with (fail)
  have hkn : kc < n := by have := (List.getElem?_eq_some_iff.1 hce).1; have := hl.out; omega
  have hknI : (kc : Int) < n := by omega
  obtain ⟨bl, ofl, ye, cs, hpl, hbl, hxl, hcs, hcl⟩ := (h.ext CeR.ok (E0.trans E9.out)).get hkn
  subst hpl
  obtain rfl : ce = ye := Option.some.inj (hce.symm.trans hxl.out)
  obtain ⟨p1, n1, c1, p2, n2, c2, p3, n3, c3, rfl, s1, s2, s3⟩ := hcs
  have c0 := hcl 0 _ rfl
  rw [Nat.add_zero] at c0
  have c10 := hcl 1 _ rfl
  have c20 := hcl 2 _ rfl
  have c30 := hcl 3 _ rfl
  have ln1 := hid s1.length
  have ln2 := hid s2.length
  have ln3 := hid s3.length
  clear hcl s1 s2 s3 hce hxl
  go_region
  clear gO fO lO x0 l0 y2 hb2 hbq v0 v1 z1 z2
  clear c0 c10 c20 c30 hbl
  have bO2 := Blk.drew (bO.out.alloc (.cells [.string ce.s, .slice p1 n1 c1, .slice p2 n2 c2, .slice p3 n3 c3].toArray 72))
  have bC2 := Blk.drew (Blk.new W1 [.string ce.s, .slice p1 n1 c1, .slice p2 n2 c2, .slice p3 n3 c3] 72)
  have E92 := Ext.drew (E9.out.alloc (.cells [.string ce.s, .slice p1 n1 c1, .slice p2 n2 c2, .slice p3 n3 c3].toArray 72))
  have neC := hid (show W1.heap.size ≠ W0.heap.size by have := bO.out.lt; omega)
  generalize hV : World.drew _ = Wc
  have bO3 := hid (show Blk Wc W0.heap.size [.int .i64 0, .int .i64 (kc : Int), .int .i64 0, .string ⟨#[]⟩, .int .i64 0, .int .i64 0, .int .i64 0, .int .i64 0, .int .i64 0, .int .i64 0, .int .i64 0, .int .i64 0, .string ⟨#[]⟩, .int .i64 0, .int .i64 0, .int .i64 0, .int .i64 0, .int .i64 0, .int .i64 0, .int .i64 0, .int .i64 0] 39 from by rw [← hV]; exact bO2)
  have bC3 := hid (show Blk Wc W1.heap.size [.string ce.s, .slice p1 n1 c1, .slice p2 n2 c2, .slice p3 n3 c3] 72 from by rw [← hV]; exact bC2)
  have E93 := hid (show Ext W0 Wc from by rw [← hV]; exact E92)
  clear hV bO E9 bO2 bC2 E92
  have bO := bO3
  have E9 := E93
  have bC := bC3
  clear bO3 bC3 E93
  have ne5 : W1.heap.size ≠ W0.heap.size := neC.out
  have x0 := (E9.out.cells _ _ b0.out.lt).trans (b0.out.cells 0)
  have l0 := Nat.lt_of_lt_of_le b0.out.lt E9.out.le
  simp only [List.getElem?_cons_zero] at x0
  have y2 := (E9.out.cells _ _ hbH.out).trans wH0.out
  have hb2 := Nat.lt_of_lt_of_le hbH.out E9.out.le
  rw [Nat.add_zero] at y2
  have v0 := (E9.out.cells _ _ hbqH.out).trans vH0.out
  have v1 := (E9.out.cells _ _ hbqH.out).trans vH1.out
  rw [Nat.add_zero] at v0
  have hbq := Nat.lt_of_lt_of_le hbqH.out E9.out.le
  have z1 := (E9.out.cells _ _ hbH.out).trans wH1.out
  have z2 := (E9.out.cells _ _ hbH.out).trans wH2.out
  have gO : ∀ j, Wc.cell? ⟨W0.heap.size, j, none⟩ = [.int .i64 0, .int .i64 (kc : Int), .int .i64 0, .string ⟨#[]⟩, .int .i64 0, .int .i64 0, .int .i64 0, .int .i64 0, .int .i64 0, .int .i64 0, .int .i64 0, .int .i64 0, .string ⟨#[]⟩, .int .i64 0, .int .i64 0, .int .i64 0, .int .i64 0, .int .i64 0, .int .i64 0, .int .i64 0, .int .i64 0][j]? := bO.out.cells
  have fO := bO.out.free
  have lO := bO.out.lt
  have gC : ∀ j, Wc.cell? ⟨W1.heap.size, j, none⟩ = [.string ce.s, .slice p1 n1 c1, .slice p2 n2 c2, .slice p3 n3 c3][j]? := bC.out.cells
  have fC := bC.out.free
  have lC := bC.out.lt
  go_upto_region 36 with (fail)
  clear gO fO lO gC fC lC x0 l0 y2 hb2 hbq v0 v1 z1 z2
  have bO2 := (bO.out.set 0 (.int .i64 2))
  simp only [List.set_cons_zero, List.set_cons_succ] at bO2
  have bC2 := (bC.out.other (B := W0.heap.size) 0 (.int .i64 2) (by have := neC.out; omega))
  have E92 := (E9.out.setCell (p := ⟨W0.heap.size, 0, none⟩) (Nat.le_refl _) (.int .i64 2))
  generalize hV : World.setCell _ _ _ = Wn1
  have bO3 := hid (show Blk Wn1 W0.heap.size [.int .i64 2, .int .i64 (kc : Int), .int .i64 0, .string ⟨#[]⟩, .int .i64 0, .int .i64 0, .int .i64 0, .int .i64 0, .int .i64 0, .int .i64 0, .int .i64 0, .int .i64 0, .string ⟨#[]⟩, .int .i64 0, .int .i64 0, .int .i64 0, .int .i64 0, .int .i64 0, .int .i64 0, .int .i64 0, .int .i64 0] 39 from by rw [← hV]; exact bO2)
  have bC3 := hid (show Blk Wn1 (W1.heap.size) [.string ce.s, .slice p1 n1 c1, .slice p2 n2 c2, .slice p3 n3 c3] 72 from by rw [← hV]; exact bC2)
  have E93 := hid (show Ext W0 Wn1 from by rw [← hV]; exact E92)
  clear hV bO E9 bO2 E92 bC bC2
  have bO := bO3
  have E9 := E93
  clear bO3 E93
  have bC := bC3
  clear bC3
  have x0 := (E9.out.cells _ _ b0.out.lt).trans (b0.out.cells 0)
  have l0 := Nat.lt_of_lt_of_le b0.out.lt E9.out.le
  simp only [List.getElem?_cons_zero] at x0
  have y2 := (E9.out.cells _ _ hbH.out).trans wH0.out
  have hb2 := Nat.lt_of_lt_of_le hbH.out E9.out.le
  rw [Nat.add_zero] at y2
  have v0 := (E9.out.cells _ _ hbqH.out).trans vH0.out
  have v1 := (E9.out.cells _ _ hbqH.out).trans vH1.out
  rw [Nat.add_zero] at v0
  have hbq := Nat.lt_of_lt_of_le hbqH.out E9.out.le
  have z1 := (E9.out.cells _ _ hbH.out).trans wH1.out
  have z2 := (E9.out.cells _ _ hbH.out).trans wH2.out
  have gO : ∀ j, Wn1.cell? ⟨W0.heap.size, j, none⟩ = [.int .i64 2, .int .i64 (kc : Int), .int .i64 0, .string ⟨#[]⟩, .int .i64 0, .int .i64 0, .int .i64 0, .int .i64 0, .int .i64 0, .int .i64 0, .int .i64 0, .int .i64 0, .string ⟨#[]⟩, .int .i64 0, .int .i64 0, .int .i64 0, .int .i64 0, .int .i64 0, .int .i64 0, .int .i64 0, .int .i64 0][j]? := bO.out.cells
  have fO := bO.out.free
  have lO := bO.out.lt
  have gC : ∀ j, Wn1.cell? ⟨W1.heap.size, j, none⟩ = [.string ce.s, .slice p1 n1 c1, .slice p2 n2 c2, .slice p3 n3 c3][j]? := bC.out.cells
  have fC := bC.out.free
  have lC := bC.out.lt
  go_upto_region 40 with (fail)
  clear gO fO lO gC fC lC x0 l0 y2 hb2 hbq v0 v1 z1 z2
  have bO2 := (bO.out.set 2 (.int .i64 V2))
  simp only [List.set_cons_zero, List.set_cons_succ] at bO2
  have bC2 := (bC.out.other (B := W0.heap.size) 2 (.int .i64 V2) (by have := neC.out; omega))
  have E92 := (E9.out.setCell (p := ⟨W0.heap.size, 2, none⟩) (Nat.le_refl _) (.int .i64 V2))
  generalize hV : World.setCell _ _ _ = Wn2
  have bO3 := hid (show Blk Wn2 W0.heap.size [.int .i64 2, .int .i64 (kc : Int), .int .i64 V2, .string ⟨#[]⟩, .int .i64 0, .int .i64 0, .int .i64 0, .int .i64 0, .int .i64 0, .int .i64 0, .int .i64 0, .int .i64 0, .string ⟨#[]⟩, .int .i64 0, .int .i64 0, .int .i64 0, .int .i64 0, .int .i64 0, .int .i64 0, .int .i64 0, .int .i64 0] 39 from by rw [← hV]; exact bO2)
  have bC3 := hid (show Blk Wn2 (W1.heap.size) [.string ce.s, .slice p1 n1 c1, .slice p2 n2 c2, .slice p3 n3 c3] 72 from by rw [← hV]; exact bC2)
  have E93 := hid (show Ext W0 Wn2 from by rw [← hV]; exact E92)
  clear hV bO E9 bO2 E92 bC bC2
  have bO := bO3
  have E9 := E93
  clear bO3 E93
  have bC := bC3
  clear bC3
  have x0 := (E9.out.cells _ _ b0.out.lt).trans (b0.out.cells 0)
  have l0 := Nat.lt_of_lt_of_le b0.out.lt E9.out.le
  simp only [List.getElem?_cons_zero] at x0
  have y2 := (E9.out.cells _ _ hbH.out).trans wH0.out
  have hb2 := Nat.lt_of_lt_of_le hbH.out E9.out.le
  rw [Nat.add_zero] at y2
  have v0 := (E9.out.cells _ _ hbqH.out).trans vH0.out
  have v1 := (E9.out.cells _ _ hbqH.out).trans vH1.out
  rw [Nat.add_zero] at v0
  have hbq := Nat.lt_of_lt_of_le hbqH.out E9.out.le
  have z1 := (E9.out.cells _ _ hbH.out).trans wH1.out
  have z2 := (E9.out.cells _ _ hbH.out).trans wH2.out
  have gO : ∀ j, Wn2.cell? ⟨W0.heap.size, j, none⟩ = [.int .i64 2, .int .i64 (kc : Int), .int .i64 V2, .string ⟨#[]⟩, .int .i64 0, .int .i64 0, .int .i64 0, .int .i64 0, .int .i64 0, .int .i64 0, .int .i64 0, .int .i64 0, .string ⟨#[]⟩, .int .i64 0, .int .i64 0, .int .i64 0, .int .i64 0, .int .i64 0, .int .i64 0, .int .i64 0, .int .i64 0][j]? := bO.out.cells
  have fO := bO.out.free
  have lO := bO.out.lt
  have gC : ∀ j, Wn2.cell? ⟨W1.heap.size, j, none⟩ = [.string ce.s, .slice p1 n1 c1, .slice p2 n2 c2, .slice p3 n3 c3][j]? := bC.out.cells
  have fC := bC.out.free
  have lC := bC.out.lt
  clear gO fO lO gC fC lC x0 l0 y2 hb2 hbq v0 v1 z1 z2
  have bE := hid (show Blk Wn2 W0.heap.size (encEd ⟨2, (kc : Int), V2, emp, zS, zL, zI⟩) 39 from by exact bO.out)
  have rE := hid (range_blk bE.out)
  have r1 := hid (there_blk (b1.out.ext E9.out))
  go_wp2_with (first | ((with_reducible refine at_dst 160 ?_); refine wpList_load_mid rfl 39 (Operand.tmp 7) rfl (W0.heap.size) 0 rfl (encEd ⟨2, (kc : Int), V2, emp, zS, zL, zI⟩) _ rE.out Tryz.underlying39 rfl (sz_Ed2 _) ?_) | ((with_reducible refine at_store ?_); refine wpList_store_mid rfl 39 (Operand.tmp 6) _ rfl (w.heap.size + 1) 0 (encEd ⟨2, (kc : Int), V2, emp, zS, zL, zI⟩).toArray rfl rfl r1.out (sz_Ed _) (one_Edit _) ?_))
  generalize hV9 : World.setCells _ _ _ _ = W9
  have kB : Blk W9 (w.heap.size + 1) (encEd ⟨2, (kc : Int), V2, emp, zS, zL, zI⟩) 39 := by rw [← hV9]; exact (b1.out.ext E9.out).setAll (vs := encEd ⟨2, (kc : Int), V2, emp, zS, zL, zI⟩) rfl
  have hE2 : Ext w W9 := by rw [← hV9]; exact ext_setCells (by omega) _ _ _ (E0.trans E9.out)
  clear hV9
  exact bodyPost_ret (v := .agg (encEd ⟨2, (kc : Int), V2, emp, zS, zL, zI⟩).toArray) (results_cell_row Tryz.results26 _ _ (w.heap.size + 1) 39 (encEd ⟨2, (kc : Int), V2, emp, zS, zL, zI⟩).toArray (0, 0) _ rfl kB Tryz.underlying39 rfl (sz_Ed _)) rfl ⟨rfl, hE2⟩

set_option maxRecDepth 100000 in
set_option maxHeartbeats 4000000 in
theorem rEdit_8 (s : ByteArray) (a1 a2 : ByteArray) (V2 : Int) (kc : Nat) (ce : CeD) (l : List CeD) (p : Option Addr) (b off bq oq : Nat) (n c m d d3 base base2 base3 : Nat) (w : World) (h : SlD CeR 4 base w p n l) (hn : n ≤ 1048576) (hS : SlD (Fl encW) 1 base2 w (some ⟨b, off, none⟩) (m + 1) [s, a1, a2]) (hv : SlD (Fl enc1) 1 base3 w (some ⟨bq, oq, none⟩) 2 [(kc : Int), V2]) (hj : kwX s = some 8) (hce : l[kc]? = some ce) :
    Calls Tryz.prog 26 #[.agg #[.slice p n c], .slice (some ⟨b, off, none⟩) (m + 1) d, .slice (some ⟨bq, oq, none⟩) 2 d3] w fun e w' => e = .returned (.agg (encEd ⟨4, (kc : Int), V2, emp, zS, zL, zI⟩).toArray) ∧ Ext w w' := by
  have hl := hid h.length
  have hmr := hid (show m = 2 by have := hS.length; simpa using this.symm)
  have hbw := hid (show b < w.heap.size by obtain ⟨b', o', h1, h2⟩ := slice_at hS (by omega); cases h1; exact h2)
  have hbqw := hid (show bq < w.heap.size by obtain ⟨b', o', h1, h2⟩ := slice_at hv (by omega); cases h1; exact h2)
  have hm0 : (0 : Int) < (m : Int) + 1 := by omega
  have hm9 : (0 : Int) < ((m + 1 : Nat) : Int) := by omega
  have hi1 : (1 : Int) < (m : Int) + 1 := by have := hmr.out; omega
  have hi2 : (2 : Int) < (m : Int) + 1 := by have := hmr.out; omega
  have hs := kw_8 hj
  go_enter Tryz.func26, Tryz.ntmps26
  go_upto_region 1 with (fail)
  generalize hW : World.alloc (World.alloc _ _) _ = W0
  obtain ⟨E0, z0, b0, b1⟩ := boxes2 hW
  clear hW z0
  replace b0 := hid (show Blk W0 (w.heap.size) [_] _ from b0)
  replace b1 := hid (show Blk W0 (w.heap.size + 1) (encEd zE) _ from b1)
  have hbH := hid (Nat.lt_of_lt_of_le hbw.out E0.le)
  have hbqH := hid (Nat.lt_of_lt_of_le hbqw.out E0.le)
  have vH0 := hid ((E0.cells _ _ hbqw.out).trans (get_i hv (k := 0) rfl))
  have vH1 := hid ((E0.cells _ _ hbqw.out).trans (get_i hv (k := 1) rfl))
  have wH0 := hid ((E0.cells _ _ hbw.out).trans (get_s hS (k := 0) rfl))
  have wH1 := hid ((E0.cells _ _ hbw.out).trans (get_s hS (k := 1) rfl))
  have wH2 := hid ((E0.cells _ _ hbw.out).trans (get_s hS (k := 2) rfl))
  have ne1 : b ≠ W0.heap.size := by have := hbH.out; omega
  have ne2 : bq ≠ W0.heap.size := by have := hbqH.out; omega
  have ne3 : w.heap.size ≠ W0.heap.size := by have := b0.out.lt; omega
  have v0 := vH0.out
  rw [Nat.add_zero] at v0
  have hbq := hbqH.out
  clear hv
  go_upto_region 2 with (first | (refine wpList_build rfl 39 #[(1, .tmp 11)] rfl [(1, .int .i64 (kc : Int))] rfl (encEd ⟨0, (kc : Int), 0, emp, zS, zL, zI⟩).toArray (built_v _) ?_) | ((with_reducible refine at_store ?_); refine wpList_newEd rfl (Operand.tmp 7) (Operand.tmp 12) rfl ⟨0, (kc : Int), 0, emp, zS, zL, zI⟩ _ rfl rfl rfl ?_; intro W1 bO E9))
  clear v0 hbq
  replace bO := hid (show Blk W1 W0.heap.size [.int .i64 0, .int .i64 (kc : Int), .int .i64 0, .string ⟨#[]⟩, .int .i64 0, .int .i64 0, .int .i64 0, .int .i64 0, .int .i64 0, .int .i64 0, .int .i64 0, .int .i64 0, .string ⟨#[]⟩, .int .i64 0, .int .i64 0, .int .i64 0, .int .i64 0, .int .i64 0, .int .i64 0, .int .i64 0, .int .i64 0] 39 from bO)
  replace E9 := hid E9
  have x0 := (E9.out.cells _ _ b0.out.lt).trans (b0.out.cells 0)
  have l0 := Nat.lt_of_lt_of_le b0.out.lt E9.out.le
  simp only [List.getElem?_cons_zero] at x0
  have y2 := (E9.out.cells _ _ hbH.out).trans wH0.out
  have hb2 := Nat.lt_of_lt_of_le hbH.out E9.out.le
  rw [Nat.add_zero] at y2
  have v0 := (E9.out.cells _ _ hbqH.out).trans vH0.out
  have v1 := (E9.out.cells _ _ hbqH.out).trans vH1.out
  rw [Nat.add_zero] at v0
  have hbq := Nat.lt_of_lt_of_le hbqH.out E9.out.le
  have z1 := (E9.out.cells _ _ hbH.out).trans wH1.out
  have z2 := (E9.out.cells _ _ hbH.out).trans wH2.out
  have gO : ∀ j, W1.cell? ⟨W0.heap.size, j, none⟩ = [.int .i64 0, .int .i64 (kc : Int), .int .i64 0, .string ⟨#[]⟩, .int .i64 0, .int .i64 0, .int .i64 0, .int .i64 0, .int .i64 0, .int .i64 0, .int .i64 0, .int .i64 0, .string ⟨#[]⟩, .int .i64 0, .int .i64 0, .int .i64 0, .int .i64 0, .int .i64 0, .int .i64 0, .int .i64 0, .int .i64 0][j]? := bO.out.cells
  have fO := bO.out.free
  have lO := bO.out.lt
  go_upto_region 12 with (fail)
  have hkn : kc < n := by have := (List.getElem?_eq_some_iff.1 hce).1; have := hl.out; omega
  have hknI : (kc : Int) < n := by omega
  obtain ⟨bl, ofl, ye, cs, hpl, hbl, hxl, hcs, hcl⟩ := (h.ext CeR.ok (E0.trans E9.out)).get hkn
  subst hpl
  obtain rfl : ce = ye := Option.some.inj (hce.symm.trans hxl.out)
  obtain ⟨p1, n1, c1, p2, n2, c2, p3, n3, c3, rfl, s1, s2, s3⟩ := hcs
  have c0 := hcl 0 _ rfl
  rw [Nat.add_zero] at c0
  have c10 := hcl 1 _ rfl
  have c20 := hcl 2 _ rfl
  have c30 := hcl 3 _ rfl
  have ln1 := hid s1.length
  have ln2 := hid s2.length
  have ln3 := hid s3.length
  clear hcl s1 s2 s3 hce hxl
  go_region
  clear gO fO lO x0 l0 y2 hb2 hbq v0 v1 z1 z2
  clear c0 c10 c20 c30 hbl
  have bO2 := Blk.drew (bO.out.alloc (.cells [.string ce.s, .slice p1 n1 c1, .slice p2 n2 c2, .slice p3 n3 c3].toArray 72))
  have bC2 := Blk.drew (Blk.new W1 [.string ce.s, .slice p1 n1 c1, .slice p2 n2 c2, .slice p3 n3 c3] 72)
  have E92 := Ext.drew (E9.out.alloc (.cells [.string ce.s, .slice p1 n1 c1, .slice p2 n2 c2, .slice p3 n3 c3].toArray 72))
  have neC := hid (show W1.heap.size ≠ W0.heap.size by have := bO.out.lt; omega)
  generalize hV : World.drew _ = Wc
  have bO3 := hid (show Blk Wc W0.heap.size [.int .i64 0, .int .i64 (kc : Int), .int .i64 0, .string ⟨#[]⟩, .int .i64 0, .int .i64 0, .int .i64 0, .int .i64 0, .int .i64 0, .int .i64 0, .int .i64 0, .int .i64 0, .string ⟨#[]⟩, .int .i64 0, .int .i64 0, .int .i64 0, .int .i64 0, .int .i64 0, .int .i64 0, .int .i64 0, .int .i64 0] 39 from by rw [← hV]; exact bO2)
  have bC3 := hid (show Blk Wc W1.heap.size [.string ce.s, .slice p1 n1 c1, .slice p2 n2 c2, .slice p3 n3 c3] 72 from by rw [← hV]; exact bC2)
  have E93 := hid (show Ext W0 Wc from by rw [← hV]; exact E92)
  clear hV bO E9 bO2 bC2 E92
  have bO := bO3
  have E9 := E93
  have bC := bC3
  clear bO3 bC3 E93
  have ne5 : W1.heap.size ≠ W0.heap.size := neC.out
  have x0 := (E9.out.cells _ _ b0.out.lt).trans (b0.out.cells 0)
  have l0 := Nat.lt_of_lt_of_le b0.out.lt E9.out.le
  simp only [List.getElem?_cons_zero] at x0
  have y2 := (E9.out.cells _ _ hbH.out).trans wH0.out
  have hb2 := Nat.lt_of_lt_of_le hbH.out E9.out.le
  rw [Nat.add_zero] at y2
  have v0 := (E9.out.cells _ _ hbqH.out).trans vH0.out
  have v1 := (E9.out.cells _ _ hbqH.out).trans vH1.out
  rw [Nat.add_zero] at v0
  have hbq := Nat.lt_of_lt_of_le hbqH.out E9.out.le
  have z1 := (E9.out.cells _ _ hbH.out).trans wH1.out
  have z2 := (E9.out.cells _ _ hbH.out).trans wH2.out
  have gO : ∀ j, Wc.cell? ⟨W0.heap.size, j, none⟩ = [.int .i64 0, .int .i64 (kc : Int), .int .i64 0, .string ⟨#[]⟩, .int .i64 0, .int .i64 0, .int .i64 0, .int .i64 0, .int .i64 0, .int .i64 0, .int .i64 0, .int .i64 0, .string ⟨#[]⟩, .int .i64 0, .int .i64 0, .int .i64 0, .int .i64 0, .int .i64 0, .int .i64 0, .int .i64 0, .int .i64 0][j]? := bO.out.cells
  have fO := bO.out.free
  have lO := bO.out.lt
  have gC : ∀ j, Wc.cell? ⟨W1.heap.size, j, none⟩ = [.string ce.s, .slice p1 n1 c1, .slice p2 n2 c2, .slice p3 n3 c3][j]? := bC.out.cells
  have fC := bC.out.free
  have lC := bC.out.lt
  go_upto_region 39 with (fail)
  clear gO fO lO gC fC lC x0 l0 y2 hb2 hbq v0 v1 z1 z2
  have bO2 := (bO.out.set 0 (.int .i64 4))
  simp only [List.set_cons_zero, List.set_cons_succ] at bO2
  have bC2 := (bC.out.other (B := W0.heap.size) 0 (.int .i64 4) (by have := neC.out; omega))
  have E92 := (E9.out.setCell (p := ⟨W0.heap.size, 0, none⟩) (Nat.le_refl _) (.int .i64 4))
  generalize hV : World.setCell _ _ _ = Wn1
  have bO3 := hid (show Blk Wn1 W0.heap.size [.int .i64 4, .int .i64 (kc : Int), .int .i64 0, .string ⟨#[]⟩, .int .i64 0, .int .i64 0, .int .i64 0, .int .i64 0, .int .i64 0, .int .i64 0, .int .i64 0, .int .i64 0, .string ⟨#[]⟩, .int .i64 0, .int .i64 0, .int .i64 0, .int .i64 0, .int .i64 0, .int .i64 0, .int .i64 0, .int .i64 0] 39 from by rw [← hV]; exact bO2)
  have bC3 := hid (show Blk Wn1 (W1.heap.size) [.string ce.s, .slice p1 n1 c1, .slice p2 n2 c2, .slice p3 n3 c3] 72 from by rw [← hV]; exact bC2)
  have E93 := hid (show Ext W0 Wn1 from by rw [← hV]; exact E92)
  clear hV bO E9 bO2 E92 bC bC2
  have bO := bO3
  have E9 := E93
  clear bO3 E93
  have bC := bC3
  clear bC3
  have x0 := (E9.out.cells _ _ b0.out.lt).trans (b0.out.cells 0)
  have l0 := Nat.lt_of_lt_of_le b0.out.lt E9.out.le
  simp only [List.getElem?_cons_zero] at x0
  have y2 := (E9.out.cells _ _ hbH.out).trans wH0.out
  have hb2 := Nat.lt_of_lt_of_le hbH.out E9.out.le
  rw [Nat.add_zero] at y2
  have v0 := (E9.out.cells _ _ hbqH.out).trans vH0.out
  have v1 := (E9.out.cells _ _ hbqH.out).trans vH1.out
  rw [Nat.add_zero] at v0
  have hbq := Nat.lt_of_lt_of_le hbqH.out E9.out.le
  have z1 := (E9.out.cells _ _ hbH.out).trans wH1.out
  have z2 := (E9.out.cells _ _ hbH.out).trans wH2.out
  have gO : ∀ j, Wn1.cell? ⟨W0.heap.size, j, none⟩ = [.int .i64 4, .int .i64 (kc : Int), .int .i64 0, .string ⟨#[]⟩, .int .i64 0, .int .i64 0, .int .i64 0, .int .i64 0, .int .i64 0, .int .i64 0, .int .i64 0, .int .i64 0, .string ⟨#[]⟩, .int .i64 0, .int .i64 0, .int .i64 0, .int .i64 0, .int .i64 0, .int .i64 0, .int .i64 0, .int .i64 0][j]? := bO.out.cells
  have fO := bO.out.free
  have lO := bO.out.lt
  have gC : ∀ j, Wn1.cell? ⟨W1.heap.size, j, none⟩ = [.string ce.s, .slice p1 n1 c1, .slice p2 n2 c2, .slice p3 n3 c3][j]? := bC.out.cells
  have fC := bC.out.free
  have lC := bC.out.lt
  go_upto_region 40 with (fail)
  clear gO fO lO gC fC lC x0 l0 y2 hb2 hbq v0 v1 z1 z2
  have bO2 := (bO.out.set 2 (.int .i64 V2))
  simp only [List.set_cons_zero, List.set_cons_succ] at bO2
  have bC2 := (bC.out.other (B := W0.heap.size) 2 (.int .i64 V2) (by have := neC.out; omega))
  have E92 := (E9.out.setCell (p := ⟨W0.heap.size, 2, none⟩) (Nat.le_refl _) (.int .i64 V2))
  generalize hV : World.setCell _ _ _ = Wn2
  have bO3 := hid (show Blk Wn2 W0.heap.size [.int .i64 4, .int .i64 (kc : Int), .int .i64 V2, .string ⟨#[]⟩, .int .i64 0, .int .i64 0, .int .i64 0, .int .i64 0, .int .i64 0, .int .i64 0, .int .i64 0, .int .i64 0, .string ⟨#[]⟩, .int .i64 0, .int .i64 0, .int .i64 0, .int .i64 0, .int .i64 0, .int .i64 0, .int .i64 0, .int .i64 0] 39 from by rw [← hV]; exact bO2)
  have bC3 := hid (show Blk Wn2 (W1.heap.size) [.string ce.s, .slice p1 n1 c1, .slice p2 n2 c2, .slice p3 n3 c3] 72 from by rw [← hV]; exact bC2)
  have E93 := hid (show Ext W0 Wn2 from by rw [← hV]; exact E92)
  clear hV bO E9 bO2 E92 bC bC2
  have bO := bO3
  have E9 := E93
  clear bO3 E93
  have bC := bC3
  clear bC3
  have x0 := (E9.out.cells _ _ b0.out.lt).trans (b0.out.cells 0)
  have l0 := Nat.lt_of_lt_of_le b0.out.lt E9.out.le
  simp only [List.getElem?_cons_zero] at x0
  have y2 := (E9.out.cells _ _ hbH.out).trans wH0.out
  have hb2 := Nat.lt_of_lt_of_le hbH.out E9.out.le
  rw [Nat.add_zero] at y2
  have v0 := (E9.out.cells _ _ hbqH.out).trans vH0.out
  have v1 := (E9.out.cells _ _ hbqH.out).trans vH1.out
  rw [Nat.add_zero] at v0
  have hbq := Nat.lt_of_lt_of_le hbqH.out E9.out.le
  have z1 := (E9.out.cells _ _ hbH.out).trans wH1.out
  have z2 := (E9.out.cells _ _ hbH.out).trans wH2.out
  have gO : ∀ j, Wn2.cell? ⟨W0.heap.size, j, none⟩ = [.int .i64 4, .int .i64 (kc : Int), .int .i64 V2, .string ⟨#[]⟩, .int .i64 0, .int .i64 0, .int .i64 0, .int .i64 0, .int .i64 0, .int .i64 0, .int .i64 0, .int .i64 0, .string ⟨#[]⟩, .int .i64 0, .int .i64 0, .int .i64 0, .int .i64 0, .int .i64 0, .int .i64 0, .int .i64 0, .int .i64 0][j]? := bO.out.cells
  have fO := bO.out.free
  have lO := bO.out.lt
  have gC : ∀ j, Wn2.cell? ⟨W1.heap.size, j, none⟩ = [.string ce.s, .slice p1 n1 c1, .slice p2 n2 c2, .slice p3 n3 c3][j]? := bC.out.cells
  have fC := bC.out.free
  have lC := bC.out.lt
  clear gO fO lO gC fC lC x0 l0 y2 hb2 hbq v0 v1 z1 z2
  have bE := hid (show Blk Wn2 W0.heap.size (encEd ⟨4, (kc : Int), V2, emp, zS, zL, zI⟩) 39 from by exact bO.out)
  have rE := hid (range_blk bE.out)
  have r1 := hid (there_blk (b1.out.ext E9.out))
  go_wp2_with (first | ((with_reducible refine at_dst 160 ?_); refine wpList_load_mid rfl 39 (Operand.tmp 7) rfl (W0.heap.size) 0 rfl (encEd ⟨4, (kc : Int), V2, emp, zS, zL, zI⟩) _ rE.out Tryz.underlying39 rfl (sz_Ed2 _) ?_) | ((with_reducible refine at_store ?_); refine wpList_store_mid rfl 39 (Operand.tmp 6) _ rfl (w.heap.size + 1) 0 (encEd ⟨4, (kc : Int), V2, emp, zS, zL, zI⟩).toArray rfl rfl r1.out (sz_Ed _) (one_Edit _) ?_))
  generalize hV9 : World.setCells _ _ _ _ = W9
  have kB : Blk W9 (w.heap.size + 1) (encEd ⟨4, (kc : Int), V2, emp, zS, zL, zI⟩) 39 := by rw [← hV9]; exact (b1.out.ext E9.out).setAll (vs := encEd ⟨4, (kc : Int), V2, emp, zS, zL, zI⟩) rfl
  have hE2 : Ext w W9 := by rw [← hV9]; exact ext_setCells (by omega) _ _ _ (E0.trans E9.out)
  clear hV9
  exact bodyPost_ret (v := .agg (encEd ⟨4, (kc : Int), V2, emp, zS, zL, zI⟩).toArray) (results_cell_row Tryz.results26 _ _ (w.heap.size + 1) 39 (encEd ⟨4, (kc : Int), V2, emp, zS, zL, zI⟩).toArray (0, 0) _ rfl kB Tryz.underlying39 rfl (sz_Ed _)) rfl ⟨rfl, hE2⟩

set_option maxRecDepth 100000 in
set_option maxHeartbeats 4000000 in
theorem rEdit_9 (s : ByteArray) (a1 a2 : ByteArray) (V2 : Int) (kc : Nat) (ce : CeD) (l : List CeD) (p : Option Addr) (b off bq oq : Nat) (n c m d d3 base base2 base3 : Nat) (w : World) (h : SlD CeR 4 base w p n l) (hn : n ≤ 1048576) (hS : SlD (Fl encW) 1 base2 w (some ⟨b, off, none⟩) (m + 1) [s, a1, a2]) (hv : SlD (Fl enc1) 1 base3 w (some ⟨bq, oq, none⟩) 2 [(kc : Int), V2]) (hj : kwX s = some 9) (hce : l[kc]? = some ce) :
    Calls Tryz.prog 26 #[.agg #[.slice p n c], .slice (some ⟨b, off, none⟩) (m + 1) d, .slice (some ⟨bq, oq, none⟩) 2 d3] w fun e w' => e = .returned (.agg (encEd ⟨6, (kc : Int), V2, emp, zS, zL, zI⟩).toArray) ∧ Ext w w' := by
  have hl := hid h.length
  have hmr := hid (show m = 2 by have := hS.length; simpa using this.symm)
  have hbw := hid (show b < w.heap.size by obtain ⟨b', o', h1, h2⟩ := slice_at hS (by omega); cases h1; exact h2)
  have hbqw := hid (show bq < w.heap.size by obtain ⟨b', o', h1, h2⟩ := slice_at hv (by omega); cases h1; exact h2)
  have hm0 : (0 : Int) < (m : Int) + 1 := by omega
  have hm9 : (0 : Int) < ((m + 1 : Nat) : Int) := by omega
  have hi1 : (1 : Int) < (m : Int) + 1 := by have := hmr.out; omega
  have hi2 : (2 : Int) < (m : Int) + 1 := by have := hmr.out; omega
  have hs := kw_9 hj
  go_enter Tryz.func26, Tryz.ntmps26
  go_upto_region 1 with (fail)
  generalize hW : World.alloc (World.alloc _ _) _ = W0
  obtain ⟨E0, z0, b0, b1⟩ := boxes2 hW
  clear hW z0
  replace b0 := hid (show Blk W0 (w.heap.size) [_] _ from b0)
  replace b1 := hid (show Blk W0 (w.heap.size + 1) (encEd zE) _ from b1)
  have hbH := hid (Nat.lt_of_lt_of_le hbw.out E0.le)
  have hbqH := hid (Nat.lt_of_lt_of_le hbqw.out E0.le)
  have vH0 := hid ((E0.cells _ _ hbqw.out).trans (get_i hv (k := 0) rfl))
  have vH1 := hid ((E0.cells _ _ hbqw.out).trans (get_i hv (k := 1) rfl))
  have wH0 := hid ((E0.cells _ _ hbw.out).trans (get_s hS (k := 0) rfl))
  have wH1 := hid ((E0.cells _ _ hbw.out).trans (get_s hS (k := 1) rfl))
  have wH2 := hid ((E0.cells _ _ hbw.out).trans (get_s hS (k := 2) rfl))
  have ne1 : b ≠ W0.heap.size := by have := hbH.out; omega
  have ne2 : bq ≠ W0.heap.size := by have := hbqH.out; omega
  have ne3 : w.heap.size ≠ W0.heap.size := by have := b0.out.lt; omega
  have v0 := vH0.out
  rw [Nat.add_zero] at v0
  have hbq := hbqH.out
  clear hv
  go_upto_region 2 with (first | (refine wpList_build rfl 39 #[(1, .tmp 11)] rfl [(1, .int .i64 (kc : Int))] rfl (encEd ⟨0, (kc : Int), 0, emp, zS, zL, zI⟩).toArray (built_v _) ?_) | ((with_reducible refine at_store ?_); refine wpList_newEd rfl (Operand.tmp 7) (Operand.tmp 12) rfl ⟨0, (kc : Int), 0, emp, zS, zL, zI⟩ _ rfl rfl rfl ?_; intro W1 bO E9))
  clear v0 hbq
  replace bO := hid (show Blk W1 W0.heap.size [.int .i64 0, .int .i64 (kc : Int), .int .i64 0, .string ⟨#[]⟩, .int .i64 0, .int .i64 0, .int .i64 0, .int .i64 0, .int .i64 0, .int .i64 0, .int .i64 0, .int .i64 0, .string ⟨#[]⟩, .int .i64 0, .int .i64 0, .int .i64 0, .int .i64 0, .int .i64 0, .int .i64 0, .int .i64 0, .int .i64 0] 39 from bO)
  replace E9 := hid E9
  have x0 := (E9.out.cells _ _ b0.out.lt).trans (b0.out.cells 0)
  have l0 := Nat.lt_of_lt_of_le b0.out.lt E9.out.le
  simp only [List.getElem?_cons_zero] at x0
  have y2 := (E9.out.cells _ _ hbH.out).trans wH0.out
  have hb2 := Nat.lt_of_lt_of_le hbH.out E9.out.le
  rw [Nat.add_zero] at y2
  have v0 := (E9.out.cells _ _ hbqH.out).trans vH0.out
  have v1 := (E9.out.cells _ _ hbqH.out).trans vH1.out
  rw [Nat.add_zero] at v0
  have hbq := Nat.lt_of_lt_of_le hbqH.out E9.out.le
  have z1 := (E9.out.cells _ _ hbH.out).trans wH1.out
  have z2 := (E9.out.cells _ _ hbH.out).trans wH2.out
  have gO : ∀ j, W1.cell? ⟨W0.heap.size, j, none⟩ = [.int .i64 0, .int .i64 (kc : Int), .int .i64 0, .string ⟨#[]⟩, .int .i64 0, .int .i64 0, .int .i64 0, .int .i64 0, .int .i64 0, .int .i64 0, .int .i64 0, .int .i64 0, .string ⟨#[]⟩, .int .i64 0, .int .i64 0, .int .i64 0, .int .i64 0, .int .i64 0, .int .i64 0, .int .i64 0, .int .i64 0][j]? := bO.out.cells
  have fO := bO.out.free
  have lO := bO.out.lt
  go_upto_region 12 with (fail)
  have hkn : kc < n := by have := (List.getElem?_eq_some_iff.1 hce).1; have := hl.out; omega
  have hknI : (kc : Int) < n := by omega
  obtain ⟨bl, ofl, ye, cs, hpl, hbl, hxl, hcs, hcl⟩ := (h.ext CeR.ok (E0.trans E9.out)).get hkn
  subst hpl
  obtain rfl : ce = ye := Option.some.inj (hce.symm.trans hxl.out)
  obtain ⟨p1, n1, c1, p2, n2, c2, p3, n3, c3, rfl, s1, s2, s3⟩ := hcs
  have c0 := hcl 0 _ rfl
  rw [Nat.add_zero] at c0
  have c10 := hcl 1 _ rfl
  have c20 := hcl 2 _ rfl
  have c30 := hcl 3 _ rfl
  have ln1 := hid s1.length
  have ln2 := hid s2.length
  have ln3 := hid s3.length
  clear hcl s1 s2 s3 hce hxl
  go_region
  clear gO fO lO x0 l0 y2 hb2 hbq v0 v1 z1 z2
  clear c0 c10 c20 c30 hbl
  have bO2 := Blk.drew (bO.out.alloc (.cells [.string ce.s, .slice p1 n1 c1, .slice p2 n2 c2, .slice p3 n3 c3].toArray 72))
  have bC2 := Blk.drew (Blk.new W1 [.string ce.s, .slice p1 n1 c1, .slice p2 n2 c2, .slice p3 n3 c3] 72)
  have E92 := Ext.drew (E9.out.alloc (.cells [.string ce.s, .slice p1 n1 c1, .slice p2 n2 c2, .slice p3 n3 c3].toArray 72))
  have neC := hid (show W1.heap.size ≠ W0.heap.size by have := bO.out.lt; omega)
  generalize hV : World.drew _ = Wc
  have bO3 := hid (show Blk Wc W0.heap.size [.int .i64 0, .int .i64 (kc : Int), .int .i64 0, .string ⟨#[]⟩, .int .i64 0, .int .i64 0, .int .i64 0, .int .i64 0, .int .i64 0, .int .i64 0, .int .i64 0, .int .i64 0, .string ⟨#[]⟩, .int .i64 0, .int .i64 0, .int .i64 0, .int .i64 0, .int .i64 0, .int .i64 0, .int .i64 0, .int .i64 0] 39 from by rw [← hV]; exact bO2)
  have bC3 := hid (show Blk Wc W1.heap.size [.string ce.s, .slice p1 n1 c1, .slice p2 n2 c2, .slice p3 n3 c3] 72 from by rw [← hV]; exact bC2)
  have E93 := hid (show Ext W0 Wc from by rw [← hV]; exact E92)
  clear hV bO E9 bO2 bC2 E92
  have bO := bO3
  have E9 := E93
  have bC := bC3
  clear bO3 bC3 E93
  have ne5 : W1.heap.size ≠ W0.heap.size := neC.out
  have x0 := (E9.out.cells _ _ b0.out.lt).trans (b0.out.cells 0)
  have l0 := Nat.lt_of_lt_of_le b0.out.lt E9.out.le
  simp only [List.getElem?_cons_zero] at x0
  have y2 := (E9.out.cells _ _ hbH.out).trans wH0.out
  have hb2 := Nat.lt_of_lt_of_le hbH.out E9.out.le
  rw [Nat.add_zero] at y2
  have v0 := (E9.out.cells _ _ hbqH.out).trans vH0.out
  have v1 := (E9.out.cells _ _ hbqH.out).trans vH1.out
  rw [Nat.add_zero] at v0
  have hbq := Nat.lt_of_lt_of_le hbqH.out E9.out.le
  have z1 := (E9.out.cells _ _ hbH.out).trans wH1.out
  have z2 := (E9.out.cells _ _ hbH.out).trans wH2.out
  have gO : ∀ j, Wc.cell? ⟨W0.heap.size, j, none⟩ = [.int .i64 0, .int .i64 (kc : Int), .int .i64 0, .string ⟨#[]⟩, .int .i64 0, .int .i64 0, .int .i64 0, .int .i64 0, .int .i64 0, .int .i64 0, .int .i64 0, .int .i64 0, .string ⟨#[]⟩, .int .i64 0, .int .i64 0, .int .i64 0, .int .i64 0, .int .i64 0, .int .i64 0, .int .i64 0, .int .i64 0][j]? := bO.out.cells
  have fO := bO.out.free
  have lO := bO.out.lt
  have gC : ∀ j, Wc.cell? ⟨W1.heap.size, j, none⟩ = [.string ce.s, .slice p1 n1 c1, .slice p2 n2 c2, .slice p3 n3 c3][j]? := bC.out.cells
  have fC := bC.out.free
  have lC := bC.out.lt
  go_upto_region 15 with (fail)
  clear gO fO lO gC fC lC x0 l0 y2 hb2 hbq v0 v1 z1 z2
  have bO2 := (bO.out.set 0 (.int .i64 6))
  simp only [List.set_cons_zero, List.set_cons_succ] at bO2
  have bC2 := (bC.out.other (B := W0.heap.size) 0 (.int .i64 6) (by have := neC.out; omega))
  have E92 := (E9.out.setCell (p := ⟨W0.heap.size, 0, none⟩) (Nat.le_refl _) (.int .i64 6))
  generalize hV : World.setCell _ _ _ = Wn1
  have bO3 := hid (show Blk Wn1 W0.heap.size [.int .i64 6, .int .i64 (kc : Int), .int .i64 0, .string ⟨#[]⟩, .int .i64 0, .int .i64 0, .int .i64 0, .int .i64 0, .int .i64 0, .int .i64 0, .int .i64 0, .int .i64 0, .string ⟨#[]⟩, .int .i64 0, .int .i64 0, .int .i64 0, .int .i64 0, .int .i64 0, .int .i64 0, .int .i64 0, .int .i64 0] 39 from by rw [← hV]; exact bO2)
  have bC3 := hid (show Blk Wn1 (W1.heap.size) [.string ce.s, .slice p1 n1 c1, .slice p2 n2 c2, .slice p3 n3 c3] 72 from by rw [← hV]; exact bC2)
  have E93 := hid (show Ext W0 Wn1 from by rw [← hV]; exact E92)
  clear hV bO E9 bO2 E92 bC bC2
  have bO := bO3
  have E9 := E93
  clear bO3 E93
  have bC := bC3
  clear bC3
  have x0 := (E9.out.cells _ _ b0.out.lt).trans (b0.out.cells 0)
  have l0 := Nat.lt_of_lt_of_le b0.out.lt E9.out.le
  simp only [List.getElem?_cons_zero] at x0
  have y2 := (E9.out.cells _ _ hbH.out).trans wH0.out
  have hb2 := Nat.lt_of_lt_of_le hbH.out E9.out.le
  rw [Nat.add_zero] at y2
  have v0 := (E9.out.cells _ _ hbqH.out).trans vH0.out
  have v1 := (E9.out.cells _ _ hbqH.out).trans vH1.out
  rw [Nat.add_zero] at v0
  have hbq := Nat.lt_of_lt_of_le hbqH.out E9.out.le
  have z1 := (E9.out.cells _ _ hbH.out).trans wH1.out
  have z2 := (E9.out.cells _ _ hbH.out).trans wH2.out
  have gO : ∀ j, Wn1.cell? ⟨W0.heap.size, j, none⟩ = [.int .i64 6, .int .i64 (kc : Int), .int .i64 0, .string ⟨#[]⟩, .int .i64 0, .int .i64 0, .int .i64 0, .int .i64 0, .int .i64 0, .int .i64 0, .int .i64 0, .int .i64 0, .string ⟨#[]⟩, .int .i64 0, .int .i64 0, .int .i64 0, .int .i64 0, .int .i64 0, .int .i64 0, .int .i64 0, .int .i64 0][j]? := bO.out.cells
  have fO := bO.out.free
  have lO := bO.out.lt
  have gC : ∀ j, Wn1.cell? ⟨W1.heap.size, j, none⟩ = [.string ce.s, .slice p1 n1 c1, .slice p2 n2 c2, .slice p3 n3 c3][j]? := bC.out.cells
  have fC := bC.out.free
  have lC := bC.out.lt
  go_upto_region 40 with (fail)
  clear gO fO lO gC fC lC x0 l0 y2 hb2 hbq v0 v1 z1 z2
  have bO2 := (bO.out.set 2 (.int .i64 V2))
  simp only [List.set_cons_zero, List.set_cons_succ] at bO2
  have bC2 := (bC.out.other (B := W0.heap.size) 2 (.int .i64 V2) (by have := neC.out; omega))
  have E92 := (E9.out.setCell (p := ⟨W0.heap.size, 2, none⟩) (Nat.le_refl _) (.int .i64 V2))
  generalize hV : World.setCell _ _ _ = Wn2
  have bO3 := hid (show Blk Wn2 W0.heap.size [.int .i64 6, .int .i64 (kc : Int), .int .i64 V2, .string ⟨#[]⟩, .int .i64 0, .int .i64 0, .int .i64 0, .int .i64 0, .int .i64 0, .int .i64 0, .int .i64 0, .int .i64 0, .string ⟨#[]⟩, .int .i64 0, .int .i64 0, .int .i64 0, .int .i64 0, .int .i64 0, .int .i64 0, .int .i64 0, .int .i64 0] 39 from by rw [← hV]; exact bO2)
  have bC3 := hid (show Blk Wn2 (W1.heap.size) [.string ce.s, .slice p1 n1 c1, .slice p2 n2 c2, .slice p3 n3 c3] 72 from by rw [← hV]; exact bC2)
  have E93 := hid (show Ext W0 Wn2 from by rw [← hV]; exact E92)
  clear hV bO E9 bO2 E92 bC bC2
  have bO := bO3
  have E9 := E93
  clear bO3 E93
  have bC := bC3
  clear bC3
  have x0 := (E9.out.cells _ _ b0.out.lt).trans (b0.out.cells 0)
  have l0 := Nat.lt_of_lt_of_le b0.out.lt E9.out.le
  simp only [List.getElem?_cons_zero] at x0
  have y2 := (E9.out.cells _ _ hbH.out).trans wH0.out
  have hb2 := Nat.lt_of_lt_of_le hbH.out E9.out.le
  rw [Nat.add_zero] at y2
  have v0 := (E9.out.cells _ _ hbqH.out).trans vH0.out
  have v1 := (E9.out.cells _ _ hbqH.out).trans vH1.out
  rw [Nat.add_zero] at v0
  have hbq := Nat.lt_of_lt_of_le hbqH.out E9.out.le
  have z1 := (E9.out.cells _ _ hbH.out).trans wH1.out
  have z2 := (E9.out.cells _ _ hbH.out).trans wH2.out
  have gO : ∀ j, Wn2.cell? ⟨W0.heap.size, j, none⟩ = [.int .i64 6, .int .i64 (kc : Int), .int .i64 V2, .string ⟨#[]⟩, .int .i64 0, .int .i64 0, .int .i64 0, .int .i64 0, .int .i64 0, .int .i64 0, .int .i64 0, .int .i64 0, .string ⟨#[]⟩, .int .i64 0, .int .i64 0, .int .i64 0, .int .i64 0, .int .i64 0, .int .i64 0, .int .i64 0, .int .i64 0][j]? := bO.out.cells
  have fO := bO.out.free
  have lO := bO.out.lt
  have gC : ∀ j, Wn2.cell? ⟨W1.heap.size, j, none⟩ = [.string ce.s, .slice p1 n1 c1, .slice p2 n2 c2, .slice p3 n3 c3][j]? := bC.out.cells
  have fC := bC.out.free
  have lC := bC.out.lt
  clear gO fO lO gC fC lC x0 l0 y2 hb2 hbq v0 v1 z1 z2
  have bE := hid (show Blk Wn2 W0.heap.size (encEd ⟨6, (kc : Int), V2, emp, zS, zL, zI⟩) 39 from by exact bO.out)
  have rE := hid (range_blk bE.out)
  have r1 := hid (there_blk (b1.out.ext E9.out))
  go_wp2_with (first | ((with_reducible refine at_dst 160 ?_); refine wpList_load_mid rfl 39 (Operand.tmp 7) rfl (W0.heap.size) 0 rfl (encEd ⟨6, (kc : Int), V2, emp, zS, zL, zI⟩) _ rE.out Tryz.underlying39 rfl (sz_Ed2 _) ?_) | ((with_reducible refine at_store ?_); refine wpList_store_mid rfl 39 (Operand.tmp 6) _ rfl (w.heap.size + 1) 0 (encEd ⟨6, (kc : Int), V2, emp, zS, zL, zI⟩).toArray rfl rfl r1.out (sz_Ed _) (one_Edit _) ?_))
  generalize hV9 : World.setCells _ _ _ _ = W9
  have kB : Blk W9 (w.heap.size + 1) (encEd ⟨6, (kc : Int), V2, emp, zS, zL, zI⟩) 39 := by rw [← hV9]; exact (b1.out.ext E9.out).setAll (vs := encEd ⟨6, (kc : Int), V2, emp, zS, zL, zI⟩) rfl
  have hE2 : Ext w W9 := by rw [← hV9]; exact ext_setCells (by omega) _ _ _ (E0.trans E9.out)
  clear hV9
  exact bodyPost_ret (v := .agg (encEd ⟨6, (kc : Int), V2, emp, zS, zL, zI⟩).toArray) (results_cell_row Tryz.results26 _ _ (w.heap.size + 1) 39 (encEd ⟨6, (kc : Int), V2, emp, zS, zL, zI⟩).toArray (0, 0) _ rfl kB Tryz.underlying39 rfl (sz_Ed _)) rfl ⟨rfl, hE2⟩

end Go.Proofs.YtncmhefendhinaaGreatDoor
