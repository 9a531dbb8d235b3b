/- The law FnExactEditOf, walked. Condition: lengths that fit; the tables as they are laid; a valid library. -/
import Derived.Test.YtncmhefendhinaaGreatDoorVrf
import Derived.Test.YtncmhefendhinaaGreatDoorDst
import Derived.Test.YtncmhefendhinaaGreatDoorDsz
import Derived.BigRegion
import Derived.Deep.RegionHeld3
import Derived.StillTailTactics
namespace Go.Proofs.YtncmhefendhinaaGreatDoor
open Go.RowKit Go.PlainAid
set_option linter.unusedVariables false
set_option linter.unusedSimpArgs false

theorem mem_sumE {α : Type} (f : α → Nat) {l : List α} {x : α} (h : x ∈ l) : f x ≤ sumD f l := by
  induction l with
  | nil => cases h
  | cons a l ih =>
    rcases List.mem_cons.1 h with rfl | h2
    · unfold sumD; simp
    · have := ih h2
      unfold sumD at *
      simp
      omega

set_option maxRecDepth 100000 in
set_option maxHeartbeats 4000000 in
theorem exactEditOf_any (s : ByteArray) (l : List CeD) (p : Option Addr) (n c base : Nat) (w : World) (hV : Vrs w) (h : SlD CeR 4 base w p n l) (hn : n ≤ 9223372036854775807) (hf : ∀ x ∈ l, FitCe x) :
    Calls Tryz.prog 3 #[.agg #[.slice p n c], .string s] w fun e w' => e = .returned (.bool true) ∧ Ext w w' := by
  have hl := hid h.length
  by_cases hs : 1048576 < s.size
  · have hsI : (1048576 : Int) < s.size := by omega
    go_enter Tryz.func3, Tryz.ntmps3
    go_upto_region 1 with (fail)
    generalize hW : World.alloc _ _ = W0
    obtain ⟨E0, z0, b0⟩ := boxes1 hW
    clear hW z0
    replace b0 := hid (show Blk W0 (w.heap.size) [_] _ from b0)
    have g0 := b0.out.cells
    have l0 := b0.out.lt
    have E := Ext.refl W0
    go_wp2_with (fail)
    go_ret
    exact ⟨rfl, E0.trans E⟩
  have hsI : ¬ ((1048576 : Int) < s.size) := by omega
  by_cases hT : (1048576 : Int) < (cesT l : Nat)
  · have hv : lessD 1048576 (cesT l : Nat) = -1 := by rw [lessD, if_pos hT]
    go_enter Tryz.func3, Tryz.ntmps3
    go_upto_region 1 with (fail)
    generalize hW : World.alloc _ _ = W0
    obtain ⟨E0, z0, b0⟩ := boxes1 hW
    clear hW z0
    replace b0 := hid (show Blk W0 (w.heap.size) [_] _ from b0)
    have g0 := b0.out.cells
    have l0 := b0.out.lt
    have E := Ext.refl W0
    have hsz := szLibraryD_any l p n c base 1048576 W0 (by omega) (by omega) (h.ext CeR.ok E0) hn hf
    rw [hv] at hsz
    replace hsz := hid hsz
    go_wp2_with (go_at_call 4; refine hsz.out.mono ?_; rintro e w1 ⟨rfl, E1⟩; replace E := E.trans E1)
    go_ret
    exact ⟨rfl, E0.trans E⟩
  have hv : lessD 1048576 (cesT l : Nat) = 1048576 - (cesT l : Nat) := by rw [lessD, if_neg hT]
  have hT2 : cesT l ≤ 1048576 := by omega
  have m1 : n ≤ 1048576 ∧ ∀ y ∈ l, y.shs.length ≤ 1048576 ∧ y.lbs.length ≤ 1048576 ∧ y.ins.length ≤ 1048576 := by
    unfold cesT at hT2
    refine ⟨by have := hl.out; omega, fun y hy => ?_⟩
    have h1 := mem_sumE ceT hy
    unfold ceT lbsT at h1
    unfold ceT lbsT at hT2
    refine ⟨?_, ?_, ?_⟩ <;> omega
  replace m1 := hid m1
  obtain ⟨L, hL⟩ : ∃ L : Int, L = 1048576 - (cesT l : Nat) := ⟨_, rfl⟩
  have hL0 : 0 ≤ L := by omega
  rw [← hL] at hv
  clear hT hT2 hL
  obtain ⟨EE, hEE⟩ : ∃ EE, EE = (eoV l s).1 := ⟨_, rfl⟩
  obtain ⟨C, hC⟩ : ∃ C, C = (eoV l s).2 := ⟨_, rfl⟩
  have hre : Hid (∀ (V : World) (q : Option Addr) (bb : Nat), SlD CeR 4 bb V q n l → Calls Tryz.prog 5 #[.agg #[.slice q n n], .string s] V fun e w' => e = .returned (.tuple #[.agg (encEd EE).toArray, .int .i64 C]) ∧ Ext V w') := fun V q bb hS => by
    rw [hEE, hC]
    exact rEO_any s l q n n bb V hS m1.out.1 hf (by omega)
  have hpe : Hid (∀ (V : World) (q : Option Addr) (bb : Nat), Ext w V → SlD CeR 4 bb V q n l → Calls Tryz.prog 7 #[.agg #[.slice q n n], .string s] V fun e w' => e = .returned (.tuple #[.agg (encEd EE).toArray, .int .i64 C]) ∧ Ext V w') := fun V q bb hE hS => by
    rw [hEE, hC]
    exact pEO_any s l q n n bb V (hV.ext hE) hS m1.out.1 hf (by omega)
  have hqe : Hid (∀ V, Calls Tryz.prog 8 #[.agg (encEd EE).toArray, .agg (encEd EE).toArray] V fun e w' => e = .returned (.bool true) ∧ Ext V w') := fun V => eqEditD_any EE V
  have hCC : (C != C) = false := by simp
  clear hEE hC
  go_enter Tryz.func3, Tryz.ntmps3
  go_upto_region 1 with (fail)
  generalize hW : World.alloc _ _ = W0
  obtain ⟨E0, z0, b0⟩ := boxes1 hW
  clear hW z0
  replace b0 := hid (show Blk W0 (w.heap.size) [_] _ from b0)
  have g0 := b0.out.cells
  have l0 := b0.out.lt
  have E := Ext.refl W0
  have hsz := szLibraryD_any l p n c base 1048576 W0 (by omega) (by omega) (h.ext CeR.ok E0) hn hf
  rw [hv] at hsz
  replace hsz := hid hsz
  clear hv
  replace h := hid h
  replace hf := hid hf
  go_upto_region 7 with (go_at_call 4; refine hsz.out.mono ?_; rintro e w1 ⟨rfl, E1⟩; replace E := E.trans E1; clear g0 l0 E1; have g0 := (b0.out.ext E).cells; have l0 := (b0.out.ext E).lt)
  clear hsz
  go_upto_region 8 with (first | (go_at_call 6; refine (toLibraryD_any l p n c base _ (h.out.ext CeR.ok (E0.trans E)) m1.out).mono ?_; rintro e w2 ⟨q, rfl, t2, E2⟩; replace t2 := hid t2; replace E := E.trans E2; clear g0 l0; have g0 := (b0.out.ext E).cells; have l0 := (b0.out.ext E).lt) | (go_at_call 5; refine (hre.out _ _ _ t2.out).mono ?_; rintro e w3 ⟨rfl, E3⟩; replace E := E.trans E3; clear g0 l0) | ((with_reducible refine at_store ?_); refine wpList_newEd rfl (Operand.tmp 6) (Operand.tmp 24) rfl EE _ rfl rfl rfl ?_; intro W4 bR E4; replace bR := hid bR; replace E := E.trans E4; have g0 := (b0.out.ext E).cells; have l0 := (b0.out.ext E).lt))
  go_upto_region 9 with (go_at_call 6; refine (toLibraryD_any l p n c base _ (h.out.ext CeR.ok (E0.trans E)) m1.out).mono ?_; rintro e w5 ⟨q5, rfl, t5, E5⟩; replace t5 := hid t5; replace E := E.trans E5; replace bR := hid (bR.out.ext E5); clear g0 l0)
  generalize hV6 : World.alloc _ _ = W6
  obtain ⟨E6, z6, b6⟩ := boxes1 hV6
  clear hV6 z6
  replace b6 := hid (show Blk W6 w5.heap.size [_] _ from b6)
  replace bR := hid (bR.out.ext E6)
  replace t5 := hid (t5.out.ext CeR.ok E6)
  replace E := E.trans E6
  have g6 := b6.out.cells
  have l6 := b6.out.lt
  go_upto_region 10 with (first | (go_at_call 7; refine (hpe.out _ _ _ (E0.trans E) t5.out).mono ?_; rintro e w7 ⟨rfl, E7⟩; clear g6 l6) | ((with_reducible refine at_store ?_); refine wpList_newEd rfl (Operand.tmp 9) (Operand.tmp 32) rfl EE _ rfl rfl rfl ?_; intro W8 bP E8; replace bP := hid bP))
  have rP := hid (range_blk bP.out)
  have rR := hid (range_blk (bR.out.ext (E7.trans E8)))
  replace b6 := hid (b6.out.ext (E7.trans E8))
  replace t5 := hid (t5.out.ext CeR.ok (E7.trans E8))
  replace E := E.trans (E7.trans E8)
  go_upto_region 12 with (first | ((with_reducible refine at_dst 34 ?_); refine wpList_load_mid rfl 39 (Operand.tmp 9) rfl (w7.heap.size) 0 rfl (encEd EE) _ rP.out Tryz.underlying39 rfl (sz_Ed2 _) ?_) | ((with_reducible refine at_dst 35 ?_); refine wpList_load_mid rfl 39 (Operand.tmp 6) rfl (w3.heap.size) 0 rfl (encEd EE) _ rR.out Tryz.underlying39 rfl (sz_Ed2 _) ?_) | (go_at_call 8; refine (hqe.out _).mono ?_; rintro e w9 ⟨rfl, E9⟩))
  replace b6 := hid (b6.out.ext E9)
  replace t5 := hid (t5.out.ext CeR.ok E9)
  replace E := E.trans E9
  have keep : Hid (∀ W, Ext w9 W → W.cell? ⟨w5.heap.size, 0, none⟩ = some (.slice q5 n n) ∧ W.cell? ⟨w.heap.size, 0, none⟩ = some (.slice p n c)) := fun W hW =>
    ⟨(b6.out.ext hW).cells 0, (b0.out.ext (E.trans hW)).cells 0⟩
  have H : Ext w9 _ := (Ext.refl w9).drew
  go_region_held3 (fun W => W.cell? ⟨w5.heap.size, 0, none⟩ = some (.slice q5 n n) ∧ W.cell? ⟨w.heap.size, 0, none⟩ = some (.slice p n c))
    (exact keep.out _ H)
    (first
      | (go_at_call 6; refine (toLibraryD_any l p n c base _ (h.out.ext CeR.ok (E0.trans (E.trans H))) m1.out).mono ?_; rintro e w10 ⟨u1, rfl, v1, E10⟩; have H0 := H.trans E10; clear H; have H := H0; clear H0)
      | (go_at_call 9; refine (eqLibraryD_any l q5 u1 n n n _ _ _ (t5.out.ext CeR.ok H) v1 m1.out).mono ?_; rintro e w11 ⟨rfl, E11⟩; have H0 := H.trans E11; clear H; have H := H0; clear H0))
  go_wp2_with (fail)
  go_ret
  exact ⟨rfl, E0.trans (E.trans H)⟩

end Go.Proofs.YtncmhefendhinaaGreatDoor
