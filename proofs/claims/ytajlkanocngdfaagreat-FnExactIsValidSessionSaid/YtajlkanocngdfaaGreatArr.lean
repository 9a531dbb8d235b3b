/- Contracts of the helper functions of the laws on slices (toXS copies, eqXS is true of equal lists, szXS). Condition: at most 2^20 elements where a slice is made or compared. -/
import Derived.Test.YtajlkanocngdfaaGreatBlk
namespace Go.Proofs.YtajlkanocngdfaaGreat
open Go.RowKit

theorem info_Int64 : (Tryz.prog.info? 2).map (fun i => (i.zero, i.size, i.bytes)) = some (some (.int .i64 0), 1, 8) := by kernel_rfl
set_option maxRecDepth 100000 in
set_option maxHeartbeats 400000 in
theorem toInt64S_any (p : Option Addr) (n c : Nat) (l : List Int) (w : World) (h : SlT enc1 1 w p n l) (hn : n ≤ 1048576) :
    Calls Tryz.prog 109 #[.slice p n c] w fun e w' => ∃ q, e = .returned (.slice q n n) ∧ w'.ownsRow w.heap.size 2 1 (.slice q n n) n (l.flatMap enc1) ∧ Ext w w' := by
  obtain ⟨i0, hi, hz0, hz1, hz2⟩ := info_parts info_Int64
  have hl := hid h.length
  go_enter Tryz.func109, Tryz.ntmps109
  go_wp2_with (refine wpList_make_full _ rfl _ _ 93 rfl w.heap.size 2 i0 _ 1 Tryz.underlying93 hi hz0 hz1 .i64 .i64 n n n rfl rfl rfl rfl (by rw [hz2]; omega) (by unfold maxLen; omega) (Nat.le_refl _) ?_; intro w1 ho hg)
  rw [made_const _ (.int .i64 0) _ (by simp [Value.cells]) (by intro j hj; simp [Value.cells] at hj ⊢; subst hj; rfl), ← fill_zero enc1 1 _ l] at ho
  have hE : Ext w w1 := (Ext.refl _).grown hg (fun _ h => by cases h)
  clear hg
  go_wp2
  go_loopw [4] (fun i wr => ∃ k : Nat, k ≤ n ∧ i = .int .i64 k ∧ Ext w wr ∧ wr.ownsRow w.heap.size 2 1 (.slice (some ⟨w.heap.size, 0, none⟩) n n) n (fill enc1 1 (.int .i64 0) l n k)) (fun i _ => n - (intOf i).toNat)
  case atStart => exact ⟨0, by omega, rfl, hE, ho⟩
  case round =>
    clear hE ho w1
    obtain ⟨k, hk, rfl, hE, ho⟩ := hrel
    by_cases hlt : k < n
    · obtain ⟨b, off, x, rfl, hb, hx, c0⟩ := (h.ext hE).int hlt
      have ho2 := ho
      have hE2 := hE
      obtain ⟨v0, e0⟩ := owns_cell ho2 k (by omega)
      have hf := owns_free ho2
      go_wp2_with fail
      go_roundw
      case rel =>
        refine ⟨k + 1, by omega, by go_num, hE2.setCell (Nat.le_refl _) _, ?_⟩
        rw [← fill_step1 hx.out hlt hl.out]
        exact owns_set ho2 _ _
      case measure => simp [intOf]; omega
    · go_wp2_with fail
      go_ret
      have : k = n := by omega
      subst this
      rw [fill_all _ _ _ _ _ hl.out] at ho
      exact ⟨_, rfl, ho, hE⟩
set_option maxRecDepth 100000 in
set_option maxHeartbeats 400000 in
theorem eqInt64S_same (p1 p2 : Option Addr) (n c1 c2 : Nat) (l : List Int) (w : World) (h1 : SlT enc1 1 w p1 n l) (h2 : SlT enc1 1 w p2 n l) (hn : n ≤ 1048576) :
    Calls Tryz.prog 130 #[.slice p1 n c1, .slice p2 n c2] w fun e w' => e = .returned (.bool true) ∧ Ext w w' := by
  have hl := hid h1.length
  go_enter Tryz.func130, Tryz.ntmps130
  go_wp2
  go_loopw [5] (fun i wr => ∃ k : Nat, k ≤ n ∧ i = .int .i64 k ∧ Ext w wr) (fun i _ => n - (intOf i).toNat)
  case atStart => exact ⟨0, by omega, rfl, Ext.refl _⟩
  case round =>
    obtain ⟨k, hk, rfl, hE⟩ := hrel
    by_cases hlt : k < n
    · obtain ⟨b, off, x, rfl, hb, hx, c0⟩ := (h1.ext hE).int hlt
      obtain ⟨b', off', x', rfl, hb', hx', d0⟩ := (h2.ext hE).int hlt
      obtain rfl : x = x' := Option.some.inj (hx.out.symm.trans hx'.out)
      have hlt' : (k : Int) < (n : Int) := by omega
      go_wp2_with fail
      refine wp_region_later (by kernel_rfl) (by kernel_rfl) ?_
      repeat (quiet_step (fail))
      refine wpQuiet_nil ?_
      rintro w2 ⟨⟨_, h3⟩, rfl⟩
      go_wp2
      go_roundw
      case rel => exact ⟨k + 1, by omega, by go_num, hE.trans h3⟩
      case measure => simp [intOf]; omega
    · go_wp2_with fail
      go_ret
      exact ⟨rfl, hE⟩
set_option maxHeartbeats 400000 in
theorem szInt64S_any (p : Option Addr) (n c : Nat) (left : Int) (w : World) (h0 : 0 ≤ left) (h1 : left ≤ 1048576) (hm : n ≤ 9223372036854775807) :
    Calls Tryz.prog 101 #[.slice p n c, .int .i64 left] w fun e w' => e = .returned (.int .i64 (if left < n then -1 else left - n)) ∧ w = w' := by
  by_cases h : left < n
  · rw [if_pos h]
    go_enter Tryz.func101, Tryz.ntmps101
    go_wp2
    go_ret
    exact ⟨rfl, rfl⟩
  · rw [if_neg h]
    go_enter Tryz.func101, Tryz.ntmps101
    go_wp2
    go_ret
    exact ⟨rfl, rfl⟩
end Go.Proofs.YtajlkanocngdfaaGreat
