/- The contracts behind the law FnExactNewSession: the comparisons, marks and held marks of lists that are nil. No condition. -/
import Derived.Test.YtiljojpnbpdaeaaBox
import Derived.Test.YtiljojpnbpdaeaaMrk
import Derived.Deep.Cut
import Derived.Laws.EntriesVeiled
import Derived.Laws.IdiomStrings
namespace Go.Proofs.Ytiljojpnbpdaeaa
open Go.RowKit
theorem cells_newN (w : World) (cs : List Value) (t : TypeId) : ∀ j u, cs[j]? = some u → (w.alloc (.cells cs.toArray t)).cell? ((⟨w.heap.size, 0, none⟩ : Addr).add j) = some u := by
  intro j u h
  rw [Addr.add_lit, Nat.zero_add, (Blk.new w cs t).cells j]; exact h
theorem cells_new1N (w : World) (v : Value) (t : TypeId) : ∀ j u, [v][j]? = some u → (w.alloc (.cells #[v] t)).cell? ((⟨w.heap.size, 0, none⟩ : Addr).add j) = some u := cells_newN w [v] t

theorem eqEditSS_nil (w : World) : Calls Try.prog 95 #[.slice none 0 0, .slice none 0 0] w fun e w' => e = .returned (.bool true) ∧ w = w' := by
  go_enter Try.func95, Try.ntmps95
  go_wp2
  refine wp_loop_once ?_
  go_wp2
  go_ret
  exact ⟨rfl, rfl⟩
theorem eqRuleS_nil (w : World) : Calls Try.prog 96 #[.slice none 0 0, .slice none 0 0] w fun e w' => e = .returned (.bool true) ∧ w = w' := by
  go_enter Try.func96, Try.ntmps96
  go_wp2
  refine wp_loop_once ?_
  go_wp2
  go_ret
  exact ⟨rfl, rfl⟩
theorem eqWaiverS_nil (w : World) : Calls Try.prog 61 #[.slice none 0 0, .slice none 0 0] w fun e w' => e = .returned (.bool true) ∧ w = w' := by
  go_enter Try.func61, Try.ntmps61
  go_wp2
  refine wp_loop_once ?_
  go_wp2
  go_ret
  exact ⟨rfl, rfl⟩
theorem eqDeviceS_nil (w : World) : Calls Try.prog 98 #[.slice none 0 0, .slice none 0 0] w fun e w' => e = .returned (.bool true) ∧ w = w' := by
  go_enter Try.func98, Try.ntmps98
  go_wp2
  refine wp_loop_once ?_
  go_wp2
  go_ret
  exact ⟨rfl, rfl⟩
theorem eqPortS_nil (w : World) : Calls Try.prog 99 #[.slice none 0 0, .slice none 0 0] w fun e w' => e = .returned (.bool true) ∧ w = w' := by
  go_enter Try.func99, Try.ntmps99
  go_wp2
  refine wp_loop_once ?_
  go_wp2
  go_ret
  exact ⟨rfl, rfl⟩
theorem eqShapeS_nil (w : World) : Calls Try.prog 144 #[.slice none 0 0, .slice none 0 0] w fun e w' => e = .returned (.bool true) ∧ w = w' := by
  go_enter Try.func144, Try.ntmps144
  go_wp2
  refine wp_loop_once ?_
  go_wp2
  go_ret
  exact ⟨rfl, rfl⟩
theorem eqLabelS_nil (w : World) : Calls Try.prog 145 #[.slice none 0 0, .slice none 0 0] w fun e w' => e = .returned (.bool true) ∧ w = w' := by
  go_enter Try.func145, Try.ntmps145
  go_wp2
  refine wp_loop_once ?_
  go_wp2
  go_ret
  exact ⟨rfl, rfl⟩
theorem eqInstanceS_nil (w : World) : Calls Try.prog 146 #[.slice none 0 0, .slice none 0 0] w fun e w' => e = .returned (.bool true) ∧ w = w' := by
  go_enter Try.func146, Try.ntmps146
  go_wp2
  refine wp_loop_once ?_
  go_wp2
  go_ret
  exact ⟨rfl, rfl⟩
theorem markEditSS_nil (k : Int) (w : World) : Calls Try.prog 101 #[.slice none 0 0, .int .i64 k] w fun e w' => e = .returned (.int .i64 k) ∧ w = w' := by
  go_enter Try.func101, Try.ntmps101
  go_wp2
  refine wp_loop_once ?_
  go_wp2
  go_ret
  exact ⟨rfl, rfl⟩
theorem heldEditSS_nil (k : Int) (w : World) : Calls Try.prog 107 #[.slice none 0 0, .int .i64 k] w fun e w' => e = .returned (.int .i64 k) ∧ w = w' := by
  go_enter Try.func107, Try.ntmps107
  go_wp2
  refine wp_loop_once ?_
  go_wp2
  go_ret
  exact ⟨rfl, rfl⟩
theorem markRuleS_nil (k : Int) (w : World) : Calls Try.prog 102 #[.slice none 0 0, .int .i64 k] w fun e w' => e = .returned (.int .i64 k) ∧ w = w' := by
  go_enter Try.func102, Try.ntmps102
  go_wp2
  refine wp_loop_once ?_
  go_wp2
  go_ret
  exact ⟨rfl, rfl⟩
theorem heldRuleS_nil (k : Int) (w : World) : Calls Try.prog 108 #[.slice none 0 0, .int .i64 k] w fun e w' => e = .returned (.int .i64 k) ∧ w = w' := by
  go_enter Try.func108, Try.ntmps108
  go_wp2
  refine wp_loop_once ?_
  go_wp2
  go_ret
  exact ⟨rfl, rfl⟩
theorem markWaiverS_nil (k : Int) (w : World) : Calls Try.prog 65 #[.slice none 0 0, .int .i64 k] w fun e w' => e = .returned (.int .i64 k) ∧ w = w' := by
  go_enter Try.func65, Try.ntmps65
  go_wp2
  refine wp_loop_once ?_
  go_wp2
  go_ret
  exact ⟨rfl, rfl⟩
theorem heldWaiverS_nil (k : Int) (w : World) : Calls Try.prog 69 #[.slice none 0 0, .int .i64 k] w fun e w' => e = .returned (.int .i64 k) ∧ w = w' := by
  go_enter Try.func69, Try.ntmps69
  go_wp2
  refine wp_loop_once ?_
  go_wp2
  go_ret
  exact ⟨rfl, rfl⟩
theorem markDeviceS_nil (k : Int) (w : World) : Calls Try.prog 104 #[.slice none 0 0, .int .i64 k] w fun e w' => e = .returned (.int .i64 k) ∧ w = w' := by
  go_enter Try.func104, Try.ntmps104
  go_wp2
  refine wp_loop_once ?_
  go_wp2
  go_ret
  exact ⟨rfl, rfl⟩
theorem heldDeviceS_nil (k : Int) (w : World) : Calls Try.prog 109 #[.slice none 0 0, .int .i64 k] w fun e w' => e = .returned (.int .i64 k) ∧ w = w' := by
  go_enter Try.func109, Try.ntmps109
  go_wp2
  refine wp_loop_once ?_
  go_wp2
  go_ret
  exact ⟨rfl, rfl⟩
theorem markPortS_nil (k : Int) (w : World) : Calls Try.prog 105 #[.slice none 0 0, .int .i64 k] w fun e w' => e = .returned (.int .i64 k) ∧ w = w' := by
  go_enter Try.func105, Try.ntmps105
  go_wp2
  refine wp_loop_once ?_
  go_wp2
  go_ret
  exact ⟨rfl, rfl⟩
theorem heldPortS_nil (k : Int) (w : World) : Calls Try.prog 110 #[.slice none 0 0, .int .i64 k] w fun e w' => e = .returned (.int .i64 k) ∧ w = w' := by
  go_enter Try.func110, Try.ntmps110
  go_wp2
  refine wp_loop_once ?_
  go_wp2
  go_ret
  exact ⟨rfl, rfl⟩
theorem markShapeS_nil (k : Int) (w : World) : Calls Try.prog 136 #[.slice none 0 0, .int .i64 k] w fun e w' => e = .returned (.int .i64 k) ∧ w = w' := by
  go_enter Try.func136, Try.ntmps136
  go_wp2
  refine wp_loop_once ?_
  go_wp2
  go_ret
  exact ⟨rfl, rfl⟩
theorem heldShapeS_nil (k : Int) (w : World) : Calls Try.prog 139 #[.slice none 0 0, .int .i64 k] w fun e w' => e = .returned (.int .i64 k) ∧ w = w' := by
  go_enter Try.func139, Try.ntmps139
  go_wp2
  refine wp_loop_once ?_
  go_wp2
  go_ret
  exact ⟨rfl, rfl⟩
theorem markLabelS_nil (k : Int) (w : World) : Calls Try.prog 137 #[.slice none 0 0, .int .i64 k] w fun e w' => e = .returned (.int .i64 k) ∧ w = w' := by
  go_enter Try.func137, Try.ntmps137
  go_wp2
  refine wp_loop_once ?_
  go_wp2
  go_ret
  exact ⟨rfl, rfl⟩
theorem heldLabelS_nil (k : Int) (w : World) : Calls Try.prog 140 #[.slice none 0 0, .int .i64 k] w fun e w' => e = .returned (.int .i64 k) ∧ w = w' := by
  go_enter Try.func140, Try.ntmps140
  go_wp2
  refine wp_loop_once ?_
  go_wp2
  go_ret
  exact ⟨rfl, rfl⟩
theorem markInstanceS_nil (k : Int) (w : World) : Calls Try.prog 138 #[.slice none 0 0, .int .i64 k] w fun e w' => e = .returned (.int .i64 k) ∧ w = w' := by
  go_enter Try.func138, Try.ntmps138
  go_wp2
  refine wp_loop_once ?_
  go_wp2
  go_ret
  exact ⟨rfl, rfl⟩
theorem heldInstanceS_nil (k : Int) (w : World) : Calls Try.prog 141 #[.slice none 0 0, .int .i64 k] w fun e w' => e = .returned (.int .i64 k) ∧ w = w' := by
  go_enter Try.func141, Try.ntmps141
  go_wp2
  refine wp_loop_once ?_
  go_wp2
  go_ret
  exact ⟨rfl, rfl⟩
theorem conv49 (w : World) : (convert 35 9 (.slice (some ⟨w.heap.size, 0, none⟩) 1 1)).run Try.prog (w.alloc (.cells #[.int .u8 49] 5)) = .ok (.string ⟨#[49]⟩) (w.alloc (.cells #[.int .u8 49] 5)) :=
  run_convert_bytes_back _ 35 9 5 ⟨w.heap.size, 0, none⟩ 1 [49] Try.underlying35 Try.underlying5 Try.underlying9 (fun j hj => by
    have h0 : j = 0 := by simpa using hj
    subst h0
    exact cells_new1N w (.int .u8 49) 5 0 _ rfl)
set_option maxRecDepth 100000 in
set_option maxHeartbeats 1000000 in
theorem markText_one (w : World) : Calls Try.prog 103 #[.int .i64 1] w fun e w' => e = .returned (.string ⟨#[109, 49]⟩) ∧ Ext w w' := by
  go_enter Try.func103, Try.ntmps103
  go_wp2
  go_loopw [0, 3] (fun k s wr => ((k = .int .i64 1 ∧ s = .string ⟨#[]⟩) ∨ (k = .int .i64 0 ∧ s = .string ⟨#[49]⟩)) ∧ Ext w wr) (fun k _ _ => (intOf k).toNat)
  case atStart => exact ⟨Or.inl ⟨rfl, rfl⟩, Ext.refl _⟩
  case round =>
    obtain ⟨⟨rfl, rfl⟩ | ⟨rfl, rfl⟩, hE⟩ := hrel
    · have hc := conv49 wr
      go_wp2
      go_roundw
      case rel => exact ⟨Or.inr ⟨rfl, rfl⟩, hE.alloc _⟩
      case measure => simp [intOf]
    · go_wp2
      go_ret
      exact ⟨rfl, hE⟩
end Go.Proofs.Ytiljojpnbpdaeaa
