/- The law FnExactNewSession returns true. No condition. -/
import Derived.Test.YtiljojpnbpdaeaaNwt
namespace Go.Proofs.Ytiljojpnbpdaeaa
open Go.RowKit

set_option maxRecDepth 100000 in
set_option maxHeartbeats 2000000 in
theorem implNewSession_any (w : World) : Calls Try.prog 26 #[] w fun e w' => ∃ B, e = .returned (.agg #[.slice (some ⟨B, 0, none⟩) 1 1, .slice none 0 0, .slice none 0 0, .slice none 0 0, .slice none 0 0, .int .i64 0, .slice none 0 0, .slice none 0 0]) ∧ w.heap.size ≤ B ∧ Blk w' B [.string ⟨#[116, 111, 112]⟩, .slice none 0 0, .slice none 0 0, .slice none 0 0] 109 ∧ Ext w w' := by
  go_enter Try.func26, Try.ntmps26
  go_wp2_with fail
  generalize hW : World.alloc (World.alloc _ _) _ = W0
  obtain ⟨E0, z0, b0, b1⟩ := boxes2 hW
  clear hW z0
  have kB := (show Blk W0 w.heap.size [.slice (some ⟨(w.heap.size + 1), 0, none⟩) 1 1, .slice none 0 0, .slice none 0 0, .slice none 0 0, .slice none 0 0, .int .i64 0, .slice none 0 0, .slice none 0 0] _ from b0).cells
  exact bodyPost_ret (v := .agg #[.slice (some ⟨(w.heap.size + 1), 0, none⟩) 1 1, .slice none 0 0, .slice none 0 0, .slice none 0 0, .slice none 0 0, .int .i64 0, .slice none 0 0, .slice none 0 0]) (by simp [results, Try.results26, go_sem, kB]) rfl ⟨w.heap.size + 1, rfl, by omega, b1, E0⟩
set_option maxRecDepth 100000 in
set_option maxHeartbeats 2000000 in
theorem specNewSession_any (w : World) : Calls Try.prog 25 #[] w fun e w' => ∃ B, e = .returned (.agg #[.slice (some ⟨B, 0, none⟩) 1 1, .slice none 0 0, .slice none 0 0, .slice none 0 0, .slice none 0 0, .int .i64 0, .slice none 0 0, .slice none 0 0]) ∧ w.heap.size ≤ B ∧ Blk w' B [.string ⟨#[116, 111, 112]⟩, .slice none 0 0, .slice none 0 0, .slice none 0 0] 109 ∧ Ext w w' := by
  go_enter Try.func25, Try.ntmps25
  go_wp2_with fail
  generalize hW : World.alloc (World.alloc _ _) _ = W0
  obtain ⟨E0, z0, b0, b1⟩ := boxes2 hW
  clear hW z0
  have kB := (show Blk W0 w.heap.size [.slice (some ⟨(w.heap.size + 1), 0, none⟩) 1 1, .slice none 0 0, .slice none 0 0, .slice none 0 0, .slice none 0 0, .int .i64 0, .slice none 0 0, .slice none 0 0] _ from b0).cells
  exact bodyPost_ret (v := .agg #[.slice (some ⟨(w.heap.size + 1), 0, none⟩) 1 1, .slice none 0 0, .slice none 0 0, .slice none 0 0, .slice none 0 0, .int .i64 0, .slice none 0 0, .slice none 0 0]) (by simp [results, Try.results25, go_sem, kB]) rfl ⟨w.heap.size + 1, rfl, by omega, b1, E0⟩
set_option maxRecDepth 100000 in
set_option maxHeartbeats 4000000 in
theorem exactNewSession_any (w : World) : Calls Try.prog 6 #[] w fun e w' => e = .returned (.bool true) ∧ Ext w w' := by
  go_enter Try.func6, Try.ntmps6
  go_wp2_with fail
  refine (specNewSession_any _).mono ?_
  rintro e w1 ⟨B0, rfl, hB0, c0, E1⟩
  go_upto_region 2 with (fail)
  generalize hW : World.alloc _ _ = W1
  obtain ⟨F1, z1, v1⟩ := boxes1 hW
  clear hW z1
  replace v1 := hid (show Blk W1 w1.heap.size [_, _, _, _, _, _, _, _] _ from v1)
  replace c0 := hid (c0.ext F1)
  have E := hid (E1.trans F1)
  have lB0 : Hid (B0 < W1.heap.size) := c0.out.lt
  have lV1 : Hid (w1.heap.size < W1.heap.size) := v1.out.lt
  clear E1 F1
  go_wp2_with fail
  refine (implNewSession_any _).mono ?_
  rintro e w2 ⟨B1, rfl, hB1, c1, E2⟩
  have lB1 := c1.lt
  have lW : Hid (w.heap.size ≤ W1.heap.size) := E.out.le
  go_upto_region 3 with (fail)
  generalize hW : World.alloc _ _ = W2
  obtain ⟨F2, z2, v2⟩ := boxes1 hW
  clear hW z2
  replace v2 := hid (show Blk W2 w2.heap.size [_, _, _, _, _, _, _, _] _ from v2)
  replace c1 := hid (c1.ext F2)
  replace c0 := hid (c0.out.ext (E2.trans F2))
  replace v1 := hid (v1.out.ext (E2.trans F2))
  replace E := hid (E.out.trans (E2.trans F2))
  have lV2 : Hid (B1 < w2.heap.size) := lB1
  have g1 := v1.out.cells
  have l1 := v1.out.lt
  have g2 := v2.out.cells
  have l2 := v2.out.lt
  go_wp2_with fail
  refine (eqSession_top B1 B0 ⟨#[116, 111, 112]⟩ _ c1.out c0.out).mono ?_
  rintro e w3 ⟨rfl, E3⟩
  clear g1 l1 g2 l2
  replace v1 := hid (v1.out.ext E3)
  replace v2 := hid (v2.out.ext E3)
  replace c0 := hid (c0.out.ext E3)
  replace c1 := hid (c1.out.ext E3)
  replace E := hid (E.out.trans E3)
  have g1 := v1.out.cells
  have l1 := v1.out.lt
  have g2 := v2.out.cells
  have l2 := v2.out.lt
  go_wp2_with fail
  refine (markSession_top B1 ⟨#[116, 111, 112]⟩ _ c1.out).mono ?_
  rintro e w4 ⟨rfl, M4, d1⟩
  clear g1 l1 g2 l2
  replace v1 := hid (v1.out.mut M4 (by have := lV1.out; have := hB1; simp; omega))
  replace v2 := hid (v2.out.mut M4 (by have := lV2.out; simp; omega))
  replace c0 := hid (c0.out.mut M4 (by have := lB0.out; have := hB1; simp; omega))
  replace c1 := hid d1
  replace E := hid (E.out.then M4 (fun k hk => by have := lW.out; simp at hk; omega))
  have g1 := v1.out.cells
  have l1 := v1.out.lt
  have g2 := v2.out.cells
  have l2 := v2.out.lt
  go_wp2_with fail
  refine (heldSession_top B1 _ c1.out).mono ?_
  rintro e w5 ⟨rfl, E5⟩
  clear g1 l1 g2 l2
  replace v1 := hid (v1.out.ext E5)
  replace v2 := hid (v2.out.ext E5)
  replace c0 := hid (c0.out.ext E5)
  replace c1 := hid (c1.out.ext E5)
  replace E := hid (E.out.trans E5)
  have g1 := v1.out.cells
  have l1 := v1.out.lt
  have g2 := v2.out.cells
  have l2 := v2.out.lt
  go_wp2_with fail
  refine (implNewSession_any _).mono ?_
  rintro e w6 ⟨B2, rfl, hB2, c2, E6⟩
  clear g1 l1 g2 l2
  replace v1 := hid (v1.out.ext E6)
  replace v2 := hid (v2.out.ext E6)
  replace c0 := hid (c0.out.ext E6)
  replace c1 := hid (c1.out.ext E6)
  replace E := hid (E.out.trans E6)
  have g1 := v1.out.cells
  have l1 := v1.out.lt
  have g2 := v2.out.cells
  have l2 := v2.out.lt
  go_upto_region 14 with (fail)
  clear g1 l1 g2 l2
  generalize hW : World.alloc _ _ = W6
  obtain ⟨F6, z6, v3⟩ := boxes1 hW
  clear hW z6
  replace v3 := hid (show Blk W6 w6.heap.size [_, _, _, _, _, _, _, _] _ from v3)
  replace c2 := hid (c2.ext F6)
  replace v1 := hid (v1.out.ext F6)
  replace v2 := hid (v2.out.ext F6)
  replace c0 := hid (c0.out.ext F6)
  replace c1 := hid (c1.out.ext F6)
  replace E := hid (E.out.trans F6)
  have g3 := v3.out.cells
  have l3 := v3.out.lt
  have g1 := v1.out.cells
  have l1 := v1.out.lt
  have g2 := v2.out.cells
  have l2 := v2.out.lt
  go_wp2_with fail
  refine (eqSession_top B2 B0 ⟨#[116, 111, 112]⟩ _ c2.out c0.out).mono ?_
  rintro e w7 ⟨rfl, E7⟩
  clear g1 l1 g2 l2
  clear g3 l3
  replace v1 := hid (v1.out.ext E7)
  replace v2 := hid (v2.out.ext E7)
  replace c0 := hid (c0.out.ext E7)
  replace c1 := hid (c1.out.ext E7)
  replace E := hid (E.out.trans E7)
  have g1 := v1.out.cells
  have l1 := v1.out.lt
  have g2 := v2.out.cells
  have l2 := v2.out.lt
  go_wp2_with fail
  refine (heldSession_top B1 _ c1.out).mono ?_
  rintro e w8 ⟨rfl, E8⟩
  clear g1 l1 g2 l2
  replace v1 := hid (v1.out.ext E8)
  replace v2 := hid (v2.out.ext E8)
  replace c0 := hid (c0.out.ext E8)
  replace c1 := hid (c1.out.ext E8)
  replace E := hid (E.out.trans E8)
  go_wp2_with fail
  go_ret
  exact ⟨rfl, E.out⟩
end Go.Proofs.Ytiljojpnbpdaeaa
