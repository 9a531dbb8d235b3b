/- The law FnExactNewSession returns true: the session of one empty cell. No condition. -/
import Derived.Test.YtiljojpnbpdaeaaNws
import Derived.Deep.RegionHeld3
namespace Go.Proofs.Ytiljojpnbpdaeaa
open Go.RowKit

set_option maxRecDepth 100000 in
set_option maxHeartbeats 2000000 in
theorem eqCell_top (s : ByteArray) (w : World) : Calls Try.prog 134 #[.agg #[.string s, .slice none 0 0, .slice none 0 0, .slice none 0 0], .agg #[.string s, .slice none 0 0, .slice none 0 0, .slice none 0 0]] w fun e w' => e = .returned (.bool true) ∧ Ext w w' := by
  go_enter Try.func134, Try.ntmps134
  go_upto_region 1 with (fail)
  generalize hW : World.alloc (World.alloc _ _) _ = W0
  obtain ⟨E0, z0, b0, b1⟩ := boxes2 hW
  clear hW z0
  replace b0 := hid (show Blk W0 w.heap.size [_, _, _, _] _ from b0)
  replace b1 := hid (show Blk W0 (w.heap.size + 1) [_, _, _, _] _ from b1)
  have g0 := b0.out.cells
  have l0 := b0.out.lt
  have g1 := b1.out.cells
  have l1 := b1.out.lt
  have E := Ext.refl W0
  go_wp2_with fail
  refine (eqShapeS_nil _).mono ?_
  rintro e w1 ⟨rfl, rfl⟩
  go_wp2_with fail
  refine (eqLabelS_nil _).mono ?_
  rintro e w2 ⟨rfl, rfl⟩
  go_wp2_with fail
  refine (eqInstanceS_nil _).mono ?_
  rintro e w3 ⟨rfl, rfl⟩
  go_wp2_with fail
  go_ret
  exact ⟨rfl, E0.trans E⟩
set_option maxRecDepth 100000 in
set_option maxHeartbeats 2000000 in
theorem eqCellS_top (B C : Nat) (s : ByteArray) (w : World) (h0 : Blk w B [.string s, .slice none 0 0, .slice none 0 0, .slice none 0 0] 109) (h1 : Blk w C [.string s, .slice none 0 0, .slice none 0 0, .slice none 0 0] 109) : Calls Try.prog 123 #[.slice (some ⟨B, 0, none⟩) 1 1, .slice (some ⟨C, 0, none⟩) 1 1] w fun e w' => e = .returned (.bool true) ∧ Ext w w' := by
  go_enter Try.func123, Try.ntmps123
  go_wp2
  go_loopw [5] (fun i wr => (i = .int .i64 0 ∨ i = .int .i64 1) ∧ Ext w wr) (fun i _ => 1 - (intOf i).toNat)
  case atStart => exact ⟨Or.inl rfl, Ext.refl _⟩
  case round =>
    obtain ⟨rfl | rfl, hE⟩ := hrel
    · have k0 := (h0.ext hE).cells
      have k1 := (h1.ext hE).cells
      have m0 := (h0.ext hE).lt
      have m1 := (h1.ext hE).lt
      have hcall : ∀ p : Later wr, Calls Try.prog 134 #[.agg #[.string s, .slice none 0 0, .slice none 0 0, .slice none 0 0], .agg #[.string s, .slice none 0 0, .slice none 0 0, .slice none 0 0]] p.val fun e w' => e = .returned (.bool true) ∧ Ext p.val w' := fun p => eqCell_top s p.val
      go_wp2_with fail
      refine wp_region_later (by kernel_rfl) (by kernel_rfl) ?_
      repeat (go_big_quiet_step ((go_at_call 134; exact later_of (hcall _))))
      refine wpQuiet_nil ?_
      rintro w7 ⟨⟨_, h7⟩, rfl⟩
      go_wp2
      go_roundw
      case rel => exact ⟨Or.inr rfl, hE.trans h7⟩
      case measure => simp [intOf]
    · go_wp2
      go_ret
      exact ⟨rfl, hE⟩
set_option maxRecDepth 100000 in
set_option maxHeartbeats 2000000 in
theorem eqLibrary_top (B C : Nat) (s : ByteArray) (w : World) (h0 : Blk w B [.string s, .slice none 0 0, .slice none 0 0, .slice none 0 0] 109) (h1 : Blk w C [.string s, .slice none 0 0, .slice none 0 0, .slice none 0 0] 109) : Calls Try.prog 94 #[.agg #[.slice (some ⟨B, 0, none⟩) 1 1], .agg #[.slice (some ⟨C, 0, none⟩) 1 1]] w fun e w' => e = .returned (.bool true) ∧ Ext w w' := by
  go_enter Try.func94, Try.ntmps94
  go_upto_region 1 with (fail)
  generalize hW : World.alloc (World.alloc _ _) _ = W0
  obtain ⟨E0, z0, b0, b1⟩ := boxes2 hW
  clear hW z0
  replace b0 := hid (show Blk W0 w.heap.size [_] _ from b0)
  replace b1 := hid (show Blk W0 (w.heap.size + 1) [_] _ from b1)
  have g0 := b0.out.cells
  have l0 := b0.out.lt
  have g1 := b1.out.cells
  have l1 := b1.out.lt
  have E := Ext.refl W0
  go_wp2_with fail
  refine (eqCellS_top B C s _ (h0.ext (E0.trans E)) (h1.ext (E0.trans E))).mono ?_
  rintro e w1 ⟨rfl, E1⟩
  replace E := E.trans E1
  clear g0 l0 g1 l1 E1
  have g0 := (b0.out.ext E).cells
  have l0 := (b0.out.ext E).lt
  have g1 := (b1.out.ext E).cells
  have l1 := (b1.out.ext E).lt
  go_wp2_with fail
  go_ret
  exact ⟨rfl, E0.trans E⟩
set_option maxRecDepth 100000 in
set_option maxHeartbeats 2000000 in
theorem eqEditor_top (B C : Nat) (s : ByteArray) (w : World) (h0 : Blk w B [.string s, .slice none 0 0, .slice none 0 0, .slice none 0 0] 109) (h1 : Blk w C [.string s, .slice none 0 0, .slice none 0 0, .slice none 0 0] 109) : Calls Try.prog 59 #[.agg #[.slice (some ⟨B, 0, none⟩) 1 1, .slice none 0 0, .slice none 0 0], .agg #[.slice (some ⟨C, 0, none⟩) 1 1, .slice none 0 0, .slice none 0 0]] w fun e w' => e = .returned (.bool true) ∧ Ext w w' := by
  go_enter Try.func59, Try.ntmps59
  go_upto_region 1 with (fail)
  generalize hW : World.alloc (World.alloc _ _) _ = W0
  obtain ⟨E0, z0, b0, b1⟩ := boxes2 hW
  clear hW z0
  replace b0 := hid (show Blk W0 w.heap.size [_, _, _] _ from b0)
  replace b1 := hid (show Blk W0 (w.heap.size + 1) [_, _, _] _ from b1)
  have g0 := b0.out.cells
  have l0 := b0.out.lt
  have g1 := b1.out.cells
  have l1 := b1.out.lt
  have E := Ext.refl W0
  go_wp2_with fail
  refine (eqLibrary_top B C s _ (h0.ext (E0.trans E)) (h1.ext (E0.trans E))).mono ?_
  rintro e w1 ⟨rfl, E1⟩
  replace E := E.trans E1
  clear g0 l0 g1 l1 E1
  have g0 := (b0.out.ext E).cells
  have l0 := (b0.out.ext E).lt
  have g1 := (b1.out.ext E).cells
  have l1 := (b1.out.ext E).lt
  go_wp2_with fail
  refine (eqEditSS_nil _).mono ?_
  rintro e w2 ⟨rfl, rfl⟩
  go_wp2_with fail
  refine (eqEditSS_nil _).mono ?_
  rintro e w3 ⟨rfl, rfl⟩
  go_wp2_with fail
  go_ret
  exact ⟨rfl, E0.trans E⟩
set_option maxRecDepth 100000 in
set_option maxHeartbeats 2000000 in
theorem eqDeck_top (w : World) : Calls Try.prog 60 #[.agg #[.slice none 0 0], .agg #[.slice none 0 0]] w fun e w' => e = .returned (.bool true) ∧ Ext w w' := by
  go_enter Try.func60, Try.ntmps60
  go_upto_region 1 with (fail)
  generalize hW : World.alloc (World.alloc _ _) _ = W0
  obtain ⟨E0, z0, b0, b1⟩ := boxes2 hW
  clear hW z0
  replace b0 := hid (show Blk W0 w.heap.size [_] _ from b0)
  replace b1 := hid (show Blk W0 (w.heap.size + 1) [_] _ from b1)
  have g0 := b0.out.cells
  have l0 := b0.out.lt
  have g1 := b1.out.cells
  have l1 := b1.out.lt
  have E := Ext.refl W0
  go_wp2_with fail
  refine (eqRuleS_nil _).mono ?_
  rintro e w1 ⟨rfl, rfl⟩
  go_wp2_with fail
  go_ret
  exact ⟨rfl, E0.trans E⟩
set_option maxRecDepth 100000 in
set_option maxHeartbeats 2000000 in
theorem eqNetlist_top (w : World) : Calls Try.prog 62 #[.agg #[.int .i64 0, .slice none 0 0, .slice none 0 0], .agg #[.int .i64 0, .slice none 0 0, .slice none 0 0]] w fun e w' => e = .returned (.bool true) ∧ Ext w w' := by
  go_enter Try.func62, Try.ntmps62
  go_upto_region 1 with (fail)
  generalize hW : World.alloc (World.alloc _ _) _ = W0
  obtain ⟨E0, z0, b0, b1⟩ := boxes2 hW
  clear hW z0
  replace b0 := hid (show Blk W0 w.heap.size [_, _, _] _ from b0)
  replace b1 := hid (show Blk W0 (w.heap.size + 1) [_, _, _] _ from b1)
  have g0 := b0.out.cells
  have l0 := b0.out.lt
  have g1 := b1.out.cells
  have l1 := b1.out.lt
  have E := Ext.refl W0
  go_wp2_with fail
  refine (eqDeviceS_nil _).mono ?_
  rintro e w1 ⟨rfl, rfl⟩
  go_wp2_with fail
  refine (eqPortS_nil _).mono ?_
  rintro e w2 ⟨rfl, rfl⟩
  go_wp2_with fail
  go_ret
  exact ⟨rfl, E0.trans E⟩
set_option maxRecDepth 100000 in
set_option maxHeartbeats 2000000 in
theorem eqSession_top (B C : Nat) (s : ByteArray) (w : World) (h0 : Blk w B [.string s, .slice none 0 0, .slice none 0 0, .slice none 0 0] 109) (h1 : Blk w C [.string s, .slice none 0 0, .slice none 0 0, .slice none 0 0] 109) : Calls Try.prog 27 #[.agg #[.slice (some ⟨B, 0, none⟩) 1 1, .slice none 0 0, .slice none 0 0, .slice none 0 0, .slice none 0 0, .int .i64 0, .slice none 0 0, .slice none 0 0], .agg #[.slice (some ⟨C, 0, none⟩) 1 1, .slice none 0 0, .slice none 0 0, .slice none 0 0, .slice none 0 0, .int .i64 0, .slice none 0 0, .slice none 0 0]] w fun e w' => e = .returned (.bool true) ∧ Ext w w' := by
  go_enter Try.func27, Try.ntmps27
  go_upto_region 1 with (fail)
  generalize hW : World.alloc (World.alloc _ _) _ = W0
  obtain ⟨E0, z0, b0, b1⟩ := boxes2 hW
  clear hW z0
  replace b0 := hid (show Blk W0 w.heap.size [_, _, _, _, _, _, _, _] _ from b0)
  replace b1 := hid (show Blk W0 (w.heap.size + 1) [_, _, _, _, _, _, _, _] _ from b1)
  have g0 := b0.out.cells
  have l0 := b0.out.lt
  have g1 := b1.out.cells
  have l1 := b1.out.lt
  have E := Ext.refl W0
  go_wp2_with fail
  refine (eqEditor_top B C s _ (h0.ext (E0.trans E)) (h1.ext (E0.trans E))).mono ?_
  rintro e w1 ⟨rfl, E1⟩
  replace E := E.trans E1
  clear g0 l0 g1 l1 E1
  have g0 := (b0.out.ext E).cells
  have l0 := (b0.out.ext E).lt
  have g1 := (b1.out.ext E).cells
  have l1 := (b1.out.ext E).lt
  go_wp2_with fail
  refine (eqDeck_top _).mono ?_
  rintro e w2 ⟨rfl, E2⟩
  replace E := E.trans E2
  clear g0 l0 g1 l1 E2
  have g0 := (b0.out.ext E).cells
  have l0 := (b0.out.ext E).lt
  have g1 := (b1.out.ext E).cells
  have l1 := (b1.out.ext E).lt
  go_wp2_with fail
  refine (eqWaiverS_nil _).mono ?_
  rintro e w3 ⟨rfl, rfl⟩
  go_wp2_with fail
  refine (eqNetlist_top _).mono ?_
  rintro e w4 ⟨rfl, E4⟩
  replace E := E.trans E4
  clear g0 l0 g1 l1 E4
  have g0 := (b0.out.ext E).cells
  have l0 := (b0.out.ext E).lt
  have g1 := (b1.out.ext E).cells
  have l1 := (b1.out.ext E).lt
  go_wp2_with fail
  go_ret
  exact ⟨rfl, E0.trans E⟩
set_option maxRecDepth 100000 in
set_option maxHeartbeats 2000000 in
theorem markDeck_top (k : Int) (w : World) : Calls Try.prog 64 #[.agg #[.slice none 0 0], .int .i64 k] w fun e w' => e = .returned (.int .i64 k) ∧ Ext w w' := by
  go_enter Try.func64, Try.ntmps64
  go_upto_region 1 with (fail)
  generalize hW : World.alloc _ _ = W0
  obtain ⟨E0, z0, b0⟩ := boxes1 hW
  clear hW z0
  replace b0 := hid (show Blk W0 w.heap.size [_] _ from b0)
  have g0 := b0.out.cells
  have l0 := b0.out.lt
  go_wp2_with fail
  refine (markRuleS_nil _ _).mono ?_
  rintro e w1 ⟨rfl, rfl⟩
  go_wp2_with fail
  go_ret
  exact ⟨rfl, E0⟩
set_option maxRecDepth 100000 in
set_option maxHeartbeats 2000000 in
theorem markNetlist_top (k : Int) (w : World) : Calls Try.prog 66 #[.agg #[.int .i64 0, .slice none 0 0, .slice none 0 0], .int .i64 k] w fun e w' => e = .returned (.int .i64 k) ∧ Ext w w' := by
  go_enter Try.func66, Try.ntmps66
  go_upto_region 1 with (fail)
  generalize hW : World.alloc _ _ = W0
  obtain ⟨E0, z0, b0⟩ := boxes1 hW
  clear hW z0
  replace b0 := hid (show Blk W0 w.heap.size [_, _, _] _ from b0)
  have g0 := b0.out.cells
  have l0 := b0.out.lt
  go_wp2_with fail
  refine (markDeviceS_nil _ _).mono ?_
  rintro e w1 ⟨rfl, rfl⟩
  go_wp2_with fail
  refine (markPortS_nil _ _).mono ?_
  rintro e w2 ⟨rfl, rfl⟩
  go_wp2_with fail
  go_ret
  exact ⟨rfl, E0⟩
set_option maxRecDepth 100000 in
set_option maxHeartbeats 2000000 in
theorem heldDeck_top (k : Int) (hk : 0 ≤ k) (w : World) : Calls Try.prog 68 #[.agg #[.slice none 0 0], .int .i64 k] w fun e w' => e = .returned (.int .i64 k) ∧ Ext w w' := by
  go_enter Try.func68, Try.ntmps68
  go_upto_region 1 with (fail)
  generalize hW : World.alloc _ _ = W0
  obtain ⟨E0, z0, b0⟩ := boxes1 hW
  clear hW z0
  replace b0 := hid (show Blk W0 w.heap.size [_] _ from b0)
  have g0 := b0.out.cells
  have l0 := b0.out.lt
  go_wp2_with fail
  refine (heldRuleS_nil _ _).mono ?_
  rintro e w1 ⟨rfl, rfl⟩
  go_wp2_with fail
  go_ret
  exact ⟨rfl, E0⟩
set_option maxRecDepth 100000 in
set_option maxHeartbeats 2000000 in
theorem heldNetlist_top (k : Int) (hk : 0 ≤ k) (w : World) : Calls Try.prog 70 #[.agg #[.int .i64 0, .slice none 0 0, .slice none 0 0], .int .i64 k] w fun e w' => e = .returned (.int .i64 k) ∧ Ext w w' := by
  go_enter Try.func70, Try.ntmps70
  go_upto_region 1 with (fail)
  generalize hW : World.alloc _ _ = W0
  obtain ⟨E0, z0, b0⟩ := boxes1 hW
  clear hW z0
  replace b0 := hid (show Blk W0 w.heap.size [_, _, _] _ from b0)
  have g0 := b0.out.cells
  have l0 := b0.out.lt
  go_wp2_with fail
  refine (heldDeviceS_nil _ _).mono ?_
  rintro e w1 ⟨rfl, rfl⟩
  go_wp2_with fail
  refine (heldPortS_nil _ _).mono ?_
  rintro e w2 ⟨rfl, rfl⟩
  go_wp2_with fail
  go_ret
  exact ⟨rfl, E0⟩
set_option maxRecDepth 100000 in
set_option maxHeartbeats 2000000 in
theorem markCellS_top (B : Nat) (s : ByteArray) (w : World) (h0 : Blk w B [.string s, .slice none 0 0, .slice none 0 0, .slice none 0 0] 109) : Calls Try.prog 128 #[.slice (some ⟨B, 0, none⟩) 1 1, .int .i64 1] w fun e w' => e = .returned (.int .i64 2) ∧ Mut w w' [B] ∧ Blk w' B [.string ⟨#[109, 49]⟩, .slice none 0 0, .slice none 0 0, .slice none 0 0] 109 := by
  go_enter Try.func128, Try.ntmps128
  go_wp2
  go_loopw [1, 5] (fun k i wr => (k = .int .i64 1 ∧ i = .int .i64 0 ∧ Mut w wr [B] ∧ Blk wr B [.string s, .slice none 0 0, .slice none 0 0, .slice none 0 0] 109) ∨ (k = .int .i64 2 ∧ i = .int .i64 1 ∧ Mut w wr [B] ∧ Blk wr B [.string ⟨#[109, 49]⟩, .slice none 0 0, .slice none 0 0, .slice none 0 0] 109)) (fun _ i _ => 1 - (intOf i).toNat)
  case atStart => exact Or.inl ⟨rfl, rfl, Mut.refl _ _, h0⟩
  case round =>
    obtain ⟨rfl, rfl, hM, hB⟩ | ⟨rfl, rfl, hM, hB⟩ := hrel
    · have k0 := hB.cells
      have m0 := hB.lt
      have f0 := hB.free
      go_upto_region 5 with (go_at_call 103; refine (markText_one _).mono ?_; rintro e w1 ⟨rfl, E1⟩; have k1 := (hB.ext E1).cells; have m1 := (hB.ext E1).lt; have f1 := (hB.ext E1).free)
      have hB2 := (hB.ext E1).set 0 (.string ⟨#[109, 49]⟩)
      have hM2 := (hM.same (E1.mut [B])).setCell (p := ⟨B, 0, none⟩) (by simp) (.string ⟨#[109, 49]⟩)
      clear k0 m0 f0 k1 m1 f1
      generalize World.setCell w1 _ _ = W2 at hB2 hM2 ⊢
      have hB2 : Blk W2 B [.string ⟨#[109, 49]⟩, .slice none 0 0, .slice none 0 0, .slice none 0 0] 109 := hB2
      have k0 := hB2.cells
      have m0 := hB2.lt
      go_wp2_with fail
      refine (markShapeS_nil _ _).mono ?_
      rintro e w2 ⟨rfl, rfl⟩
      go_wp2_with fail
      refine (markLabelS_nil _ _).mono ?_
      rintro e w2 ⟨rfl, rfl⟩
      go_wp2_with fail
      refine (markInstanceS_nil _ _).mono ?_
      rintro e w2 ⟨rfl, rfl⟩
      go_wp2_with fail
      go_roundw
      case rel => exact Or.inr ⟨rfl, rfl, hM2, hB2⟩
      case measure => simp [intOf]
    · go_wp2
      go_ret
      exact ⟨rfl, hM, hB⟩
set_option maxRecDepth 100000 in
set_option maxHeartbeats 2000000 in
theorem markLibrary_top (B : Nat) (s : ByteArray) (w : World) (h0 : Blk w B [.string s, .slice none 0 0, .slice none 0 0, .slice none 0 0] 109) : Calls Try.prog 100 #[.agg #[.slice (some ⟨B, 0, none⟩) 1 1], .int .i64 1] w fun e w' => e = .returned (.int .i64 2) ∧ Mut w w' [B] ∧ Blk w' B [.string ⟨#[109, 49]⟩, .slice none 0 0, .slice none 0 0, .slice none 0 0] 109 := by
  go_enter Try.func100, Try.ntmps100
  go_upto_region 1 with (fail)
  generalize hW : World.alloc _ _ = W0
  obtain ⟨E0, z0, b0⟩ := boxes1 hW
  clear hW z0
  replace b0 := hid (show Blk W0 w.heap.size [_] _ from b0)
  have g0 := b0.out.cells
  have l0 := b0.out.lt
  go_wp2_with fail
  refine (markCellS_top B s _ (h0.ext E0)).mono ?_
  rintro e w1 ⟨rfl, M1, h1⟩
  clear g0 l0
  have hne : w.heap.size ∉ [B] := by have := h0.lt; simp; omega
  have g0 := (b0.out.mut M1 hne).cells
  have l0 := (b0.out.mut M1 hne).lt
  go_wp2_with fail
  go_ret
  exact ⟨rfl, (E0.mut [B]).same M1, h1⟩
set_option maxRecDepth 100000 in
set_option maxHeartbeats 2000000 in
theorem markEditor_top (B : Nat) (s : ByteArray) (w : World) (h0 : Blk w B [.string s, .slice none 0 0, .slice none 0 0, .slice none 0 0] 109) : Calls Try.prog 63 #[.agg #[.slice (some ⟨B, 0, none⟩) 1 1, .slice none 0 0, .slice none 0 0], .int .i64 1] w fun e w' => e = .returned (.int .i64 2) ∧ Mut w w' [B] ∧ Blk w' B [.string ⟨#[109, 49]⟩, .slice none 0 0, .slice none 0 0, .slice none 0 0] 109 := by
  go_enter Try.func63, Try.ntmps63
  go_upto_region 1 with (fail)
  generalize hW : World.alloc _ _ = W0
  obtain ⟨E0, z0, b0⟩ := boxes1 hW
  clear hW z0
  replace b0 := hid (show Blk W0 w.heap.size [_, _, _] _ from b0)
  have g0 := b0.out.cells
  have l0 := b0.out.lt
  go_wp2_with fail
  refine (markLibrary_top B s _ (h0.ext E0)).mono ?_
  rintro e w1 ⟨rfl, M1, h1⟩
  clear g0 l0
  have hne : w.heap.size ∉ [B] := by have := h0.lt; simp; omega
  have g0 := (b0.out.mut M1 hne).cells
  have l0 := (b0.out.mut M1 hne).lt
  go_wp2_with fail
  refine (markEditSS_nil _ _).mono ?_
  rintro e w2 ⟨rfl, rfl⟩
  go_wp2_with fail
  refine (markEditSS_nil _ _).mono ?_
  rintro e w3 ⟨rfl, rfl⟩
  go_wp2_with fail
  go_ret
  exact ⟨rfl, (E0.mut [B]).same M1, h1⟩
set_option maxRecDepth 100000 in
set_option maxHeartbeats 2000000 in
theorem markSession_top (B : Nat) (s : ByteArray) (w : World) (h0 : Blk w B [.string s, .slice none 0 0, .slice none 0 0, .slice none 0 0] 109) : Calls Try.prog 28 #[.agg #[.slice (some ⟨B, 0, none⟩) 1 1, .slice none 0 0, .slice none 0 0, .slice none 0 0, .slice none 0 0, .int .i64 0, .slice none 0 0, .slice none 0 0], .int .i64 1] w fun e w' => e = .returned (.int .i64 2) ∧ Mut w w' [B] ∧ Blk w' B [.string ⟨#[109, 49]⟩, .slice none 0 0, .slice none 0 0, .slice none 0 0] 109 := by
  go_enter Try.func28, Try.ntmps28
  go_upto_region 1 with (fail)
  generalize hW : World.alloc _ _ = W0
  obtain ⟨E0, z0, b0⟩ := boxes1 hW
  clear hW z0
  replace b0 := hid (show Blk W0 w.heap.size [_, _, _, _, _, _, _, _] _ from b0)
  have g0 := b0.out.cells
  have l0 := b0.out.lt
  go_wp2_with fail
  refine (markEditor_top B s _ (h0.ext E0)).mono ?_
  rintro e w1 ⟨rfl, M1, h1⟩
  clear g0 l0
  have hne : w.heap.size ∉ [B] := by have := h0.lt; simp; omega
  have g0 := (b0.out.mut M1 hne).cells
  have l0 := (b0.out.mut M1 hne).lt
  go_wp2_with fail
  refine (markDeck_top _ _).mono ?_
  rintro e w2 ⟨rfl, E2⟩
  replace M1 := M1.same (E2.mut [B])
  replace h1 := h1.ext E2
  clear g0 l0
  have g0 := (b0.out.mut M1 hne).cells
  have l0 := (b0.out.mut M1 hne).lt
  go_wp2_with fail
  refine (markWaiverS_nil _ _).mono ?_
  rintro e w3 ⟨rfl, rfl⟩
  go_wp2_with fail
  refine (markNetlist_top _ _).mono ?_
  rintro e w4 ⟨rfl, E2⟩
  replace M1 := M1.same (E2.mut [B])
  replace h1 := h1.ext E2
  clear g0 l0
  have g0 := (b0.out.mut M1 hne).cells
  have l0 := (b0.out.mut M1 hne).lt
  go_wp2_with fail
  go_ret
  exact ⟨rfl, (E0.mut [B]).same M1, h1⟩
set_option maxRecDepth 100000 in
set_option maxHeartbeats 2000000 in
theorem heldCellS_top (B : Nat) (w : World) (h0 : Blk w B [.string ⟨#[109, 49]⟩, .slice none 0 0, .slice none 0 0, .slice none 0 0] 109) : Calls Try.prog 130 #[.slice (some ⟨B, 0, none⟩) 1 1, .int .i64 1] w fun e w' => e = .returned (.int .i64 2) ∧ Ext w w' := by
  go_enter Try.func130, Try.ntmps130
  go_wp2
  go_loopw [1, 5] (fun k i wr => ((k = .int .i64 1 ∧ i = .int .i64 0) ∨ (k = .int .i64 2 ∧ i = .int .i64 1)) ∧ Ext w wr) (fun _ i _ => 1 - (intOf i).toNat)
  case atStart => exact ⟨Or.inl ⟨rfl, rfl⟩, Ext.refl _⟩
  case round =>
    obtain ⟨⟨rfl, rfl⟩ | ⟨rfl, rfl⟩, hE⟩ := hrel
    · have k0 := (h0.ext hE).cells
      have m0 := (h0.ext hE).lt
      have hcall : ∀ p : Later wr, Calls Try.prog 103 #[.int .i64 1] p.val fun e w' => e = .returned (.string ⟨#[109, 49]⟩) ∧ Ext p.val w' := fun p => markText_one p.val
      go_wp2_with fail
      refine wp_region_later (by kernel_rfl) (by kernel_rfl) ?_
      repeat (go_big_quiet_step ((go_at_call 103; exact later_of (hcall _))))
      refine wpQuiet_nil ?_
      rintro w7 ⟨⟨_, h7⟩, rfl⟩
      clear k0 m0
      have k0 := (h0.ext (hE.trans h7)).cells
      have m0 := (h0.ext (hE.trans h7)).lt
      go_wp2_with fail
      refine (heldShapeS_nil _ _).mono ?_
      rintro e w2 ⟨rfl, rfl⟩
      go_wp2_with fail
      refine (heldLabelS_nil _ _).mono ?_
      rintro e w2 ⟨rfl, rfl⟩
      go_wp2_with fail
      refine (heldInstanceS_nil _ _).mono ?_
      rintro e w2 ⟨rfl, rfl⟩
      go_wp2_with fail
      go_roundw
      case rel => exact ⟨Or.inr ⟨rfl, rfl⟩, hE.trans h7⟩
      case measure => simp [intOf]
    · go_wp2
      go_ret
      exact ⟨rfl, hE⟩
set_option maxRecDepth 100000 in
set_option maxHeartbeats 2000000 in
theorem heldLibrary_top (B : Nat) (w : World) (h0 : Blk w B [.string ⟨#[109, 49]⟩, .slice none 0 0, .slice none 0 0, .slice none 0 0] 109) : Calls Try.prog 106 #[.agg #[.slice (some ⟨B, 0, none⟩) 1 1], .int .i64 1] w fun e w' => e = .returned (.int .i64 2) ∧ Ext w w' := by
  go_enter Try.func106, Try.ntmps106
  go_upto_region 1 with (fail)
  generalize hW : World.alloc _ _ = W0
  obtain ⟨E0, z0, b0⟩ := boxes1 hW
  clear hW z0
  replace b0 := hid (show Blk W0 w.heap.size [_] _ from b0)
  have g0 := b0.out.cells
  have l0 := b0.out.lt
  go_wp2_with fail
  refine (heldCellS_top B _ (h0.ext E0)).mono ?_
  rintro e w1 ⟨rfl, E1⟩
  clear g0 l0
  have g0 := (b0.out.ext E1).cells
  have l0 := (b0.out.ext E1).lt
  go_wp2_with fail
  go_ret
  exact ⟨rfl, E0.trans E1⟩
set_option maxRecDepth 100000 in
set_option maxHeartbeats 2000000 in
theorem heldEditor_top (B : Nat) (w : World) (h0 : Blk w B [.string ⟨#[109, 49]⟩, .slice none 0 0, .slice none 0 0, .slice none 0 0] 109) : Calls Try.prog 67 #[.agg #[.slice (some ⟨B, 0, none⟩) 1 1, .slice none 0 0, .slice none 0 0], .int .i64 1] w fun e w' => e = .returned (.int .i64 2) ∧ Ext w w' := by
  go_enter Try.func67, Try.ntmps67
  go_upto_region 1 with (fail)
  generalize hW : World.alloc _ _ = W0
  obtain ⟨E0, z0, b0⟩ := boxes1 hW
  clear hW z0
  replace b0 := hid (show Blk W0 w.heap.size [_, _, _] _ from b0)
  have g0 := b0.out.cells
  have l0 := b0.out.lt
  go_wp2_with fail
  refine (heldLibrary_top B _ (h0.ext E0)).mono ?_
  rintro e w1 ⟨rfl, E1⟩
  clear g0 l0
  have g0 := (b0.out.ext E1).cells
  have l0 := (b0.out.ext E1).lt
  go_wp2_with fail
  refine (heldEditSS_nil _ _).mono ?_
  rintro e w2 ⟨rfl, rfl⟩
  go_wp2_with fail
  refine (heldEditSS_nil _ _).mono ?_
  rintro e w3 ⟨rfl, rfl⟩
  go_wp2_with fail
  go_ret
  exact ⟨rfl, E0.trans E1⟩
set_option maxRecDepth 100000 in
set_option maxHeartbeats 2000000 in
theorem heldSession_top (B : Nat) (w : World) (h0 : Blk w B [.string ⟨#[109, 49]⟩, .slice none 0 0, .slice none 0 0, .slice none 0 0] 109) : Calls Try.prog 29 #[.agg #[.slice (some ⟨B, 0, none⟩) 1 1, .slice none 0 0, .slice none 0 0, .slice none 0 0, .slice none 0 0, .int .i64 0, .slice none 0 0, .slice none 0 0], .int .i64 1] w fun e w' => e = .returned (.int .i64 2) ∧ Ext w w' := by
  go_enter Try.func29, Try.ntmps29
  go_upto_region 1 with (fail)
  generalize hW : World.alloc _ _ = W0
  obtain ⟨E0, z0, b0⟩ := boxes1 hW
  clear hW z0
  replace b0 := hid (show Blk W0 w.heap.size [_, _, _, _, _, _, _, _] _ from b0)
  have g0 := b0.out.cells
  have l0 := b0.out.lt
  go_wp2_with fail
  refine (heldEditor_top B _ (h0.ext E0)).mono ?_
  rintro e w1 ⟨rfl, E1⟩
  clear g0 l0
  have g0 := (b0.out.ext E1).cells
  have l0 := (b0.out.ext E1).lt
  go_wp2_with fail
  refine (heldDeck_top _ (by omega) _).mono ?_
  rintro e w2 ⟨rfl, E2⟩
  replace E1 := E1.trans E2
  clear g0 l0
  have g0 := (b0.out.ext E1).cells
  have l0 := (b0.out.ext E1).lt
  go_wp2_with fail
  refine (heldWaiverS_nil _ _).mono ?_
  rintro e w3 ⟨rfl, rfl⟩
  go_wp2_with fail
  refine (heldNetlist_top _ (by omega) _).mono ?_
  rintro e w4 ⟨rfl, E2⟩
  replace E1 := E1.trans E2
  clear g0 l0
  have g0 := (b0.out.ext E1).cells
  have l0 := (b0.out.ext E1).lt
  go_wp2_with fail
  go_ret
  exact ⟨rfl, E0.trans E1⟩
end Go.Proofs.Ytiljojpnbpdaeaa
