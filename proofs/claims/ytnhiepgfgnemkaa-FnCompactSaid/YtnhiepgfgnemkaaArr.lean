/- Contracts of the helper functions of the laws on slices (toXS copies, eqXS is true of equal lists, szXS). Condition: at most 2^20 elements where a slice is made or compared. -/
import Derived.Test.YtnhiepgfgnemkaaBlk
namespace Go.Proofs.Ytnhiepgfgnemkaa
open Go.RowKit

set_option maxHeartbeats 400000 in
theorem toBlock_any (x y u v : Int) (w : World) :
    Calls Try.prog 57 #[.agg #[.int .i64 x, .int .i64 y, .int .i64 u, .int .i64 v]] w fun e w' => e = .returned (.agg #[.int .i64 x, .int .i64 y, .int .i64 u, .int .i64 v]) ∧ Ext w w' := by
  go_enter Try.func57, Try.ntmps57
  go_wp2
  refine bodyPost_ret (v := .agg #[.int .i64 x, .int .i64 y, .int .i64 u, .int .i64 v]) (by simp [results, Try.results57, go_sem]) rfl ⟨rfl, ?_⟩
  exact (((Ext.refl _).alloc _).alloc _).alloc _
theorem info_Int64 : (Try.prog.info? 2).map (fun i => (i.zero, i.size, i.bytes)) = some (some (.int .i64 0), 1, 8) := by kernel_rfl
set_option maxRecDepth 100000 in
set_option maxHeartbeats 400000 in
theorem toInt64S_any (p : Option Addr) (n c : Nat) (l : List Int) (w : World) (h : SlT enc1 1 w p n l) (hn : n ≤ 1048576) :
    Calls Try.prog 18 #[.slice p n c] w fun e w' => ∃ q, e = .returned (.slice q n n) ∧ w'.ownsRow w.heap.size 2 1 (.slice q n n) n (l.flatMap enc1) ∧ Ext w w' := by
  obtain ⟨i0, hi, hz0, hz1, hz2⟩ := info_parts info_Int64
  have hl := hid h.length
  go_enter Try.func18, Try.ntmps18
  go_wp2_with (refine wpList_make_full _ rfl _ _ 23 rfl w.heap.size 2 i0 _ 1 Try.underlying23 hi hz0 hz1 .i64 .i64 n n n rfl rfl rfl rfl (by rw [hz2]; omega) (by unfold maxLen; omega) (Nat.le_refl _) ?_; intro w1 ho hg)
  rw [made_const _ (.int .i64 0) _ (by simp [Value.cells]) (by intro j hj; simp [Value.cells] at hj ⊢; subst hj; rfl), ← fill_zero enc1 1 _ l] at ho
  have hE : Ext w w1 := (Ext.refl _).grown hg (fun _ h => by cases h)
  clear hg
  go_wp2
  go_loopw [4] (fun i wr => ∃ k : Nat, k ≤ n ∧ i = .int .i64 k ∧ Ext w wr ∧ wr.ownsRow w.heap.size 2 1 (.slice (some ⟨w.heap.size, 0, none⟩) n n) n (fill enc1 1 (.int .i64 0) l n k)) (fun i _ => n - (intOf i).toNat)
  case atStart => exact ⟨0, by omega, rfl, hE, ho⟩
  case round =>
    clear hE ho w1
    obtain ⟨k, hk, rfl, hE, ho⟩ := hrel
    by_cases hlt : k < n
    · obtain ⟨b, off, x, rfl, hb, hx, c0⟩ := (h.ext hE).int hlt
      have ho2 := ho
      have hE2 := hE
      obtain ⟨v0, e0⟩ := owns_cell ho2 k (by omega)
      have hf := owns_free ho2
      go_wp2_with fail
      go_roundw
      case rel =>
        refine ⟨k + 1, by omega, by go_num, hE2.setCell (Nat.le_refl _) _, ?_⟩
        rw [← fill_step1 hx.out hlt hl.out]
        exact owns_set ho2 _ _
      case measure => simp [intOf]; omega
    · go_wp2_with fail
      go_ret
      have : k = n := by omega
      subst this
      rw [fill_all _ _ _ _ _ hl.out] at ho
      exact ⟨_, rfl, ho, hE⟩
theorem info_Block : (Try.prog.info? 49).map (fun i => (i.zero, i.size, i.bytes)) = some (some (.agg #[.int .i64 0, .int .i64 0, .int .i64 0, .int .i64 0]), 4, 32) := by kernel_rfl
set_option maxRecDepth 100000 in
set_option maxHeartbeats 400000 in
theorem toBlockS_any (p : Option Addr) (n c : Nat) (l : List Q4) (w : World) (h : SlT enc4 4 w p n l) (hn : n ≤ 1048576) :
    Calls Try.prog 17 #[.slice p n c] w fun e w' => ∃ q, e = .returned (.slice q n n) ∧ w'.ownsRow w.heap.size 49 4 (.slice q n n) n (l.flatMap enc4) ∧ Ext w w' := by
  obtain ⟨i0, hi, hz0, hz1, hz2⟩ := info_parts info_Block
  have hl := hid h.length
  go_enter Try.func17, Try.ntmps17
  go_wp2_with (refine wpList_make_full _ rfl _ _ 26 rfl w.heap.size 49 i0 _ 4 Try.underlying26 hi hz0 hz1 .i64 .i64 n n n rfl rfl rfl rfl (by rw [hz2]; omega) (by unfold maxLen; omega) (Nat.le_refl _) ?_; intro w1 ho hg)
  rw [made_const _ (.int .i64 0) _ (by simp [Value.cells]) (by intro j hj; simp [Value.cells] at hj ⊢; match j, hj with | 0, _ => rfl | 1, _ => rfl | 2, _ => rfl | 3, _ => rfl), ← fill_zero enc4 4 _ l] at ho
  have hE : Ext w w1 := (Ext.refl _).grown hg (fun _ h => by cases h)
  clear hg
  go_wp2
  go_loopw [4] (fun i wr => ∃ k : Nat, k ≤ n ∧ i = .int .i64 k ∧ Ext w wr ∧ wr.ownsRow w.heap.size 49 4 (.slice (some ⟨w.heap.size, 0, none⟩) n n) n (fill enc4 4 (.int .i64 0) l n k)) (fun i _ => n - (intOf i).toNat)
  case atStart => exact ⟨0, by omega, rfl, hE, ho⟩
  case round =>
    clear hE ho w1
    obtain ⟨k, hk, rfl, hE, ho⟩ := hrel
    by_cases hlt : k < n
    · obtain ⟨b, off, x, rfl, hb, hx, c0, c1, c2, c3⟩ := (h.ext hE).four hlt
      go_wp2_with fail
      refine (toBlock_any _ _ _ _ _).mono ?_
      rintro e w2 ⟨rfl, h2⟩
      have ho2 := owns_ext ho h2
      have hE2 := hE.trans h2
      clear c0 c1 c2 c3
      obtain ⟨v0, e0⟩ := owns_cell ho2 (k * 4) (by omega)
      obtain ⟨v1, e1⟩ := owns_cell ho2 (k * 4 + 1) (by omega)
      obtain ⟨v2, e2⟩ := owns_cell ho2 (k * 4 + 2) (by omega)
      obtain ⟨v3, e3⟩ := owns_cell ho2 (k * 4 + 3) (by omega)
      have hf := owns_free ho2
      go_wp2_with fail
      go_roundw
      case rel =>
        refine ⟨k + 1, by omega, by go_num, ((((hE2.setCell (Nat.le_refl _) _).setCell (Nat.le_refl _) _).setCell (Nat.le_refl _) _).setCell (Nat.le_refl _) _), ?_⟩
        rw [← fill_step4 hx.out hlt hl.out]
        exact (owns_set (owns_set (owns_set (owns_set ho2 _ _) _ _) _ _) _ _)
      case measure => simp [intOf]; omega
    · go_wp2_with fail
      go_ret
      have : k = n := by omega
      subst this
      rw [fill_all _ _ _ _ _ hl.out] at ho
      exact ⟨_, rfl, ho, hE⟩
set_option maxRecDepth 100000 in
set_option maxHeartbeats 400000 in
theorem eqInt64S_same (p1 p2 : Option Addr) (n c1 c2 : Nat) (l : List Int) (w : World) (h1 : SlT enc1 1 w p1 n l) (h2 : SlT enc1 1 w p2 n l) (hn : n ≤ 1048576) :
    Calls Try.prog 21 #[.slice p1 n c1, .slice p2 n c2] w fun e w' => e = .returned (.bool true) ∧ Ext w w' := by
  have hl := hid h1.length
  go_enter Try.func21, Try.ntmps21
  go_wp2
  go_loopw [5] (fun i wr => ∃ k : Nat, k ≤ n ∧ i = .int .i64 k ∧ Ext w wr) (fun i _ => n - (intOf i).toNat)
  case atStart => exact ⟨0, by omega, rfl, Ext.refl _⟩
  case round =>
    obtain ⟨k, hk, rfl, hE⟩ := hrel
    by_cases hlt : k < n
    · obtain ⟨b, off, x, rfl, hb, hx, c0⟩ := (h1.ext hE).int hlt
      obtain ⟨b', off', x', rfl, hb', hx', d0⟩ := (h2.ext hE).int hlt
      obtain rfl : x = x' := Option.some.inj (hx.out.symm.trans hx'.out)
      have hlt' : (k : Int) < (n : Int) := by omega
      go_wp2_with fail
      refine wp_region_later (by kernel_rfl) (by kernel_rfl) ?_
      repeat (quiet_step (fail))
      refine wpQuiet_nil ?_
      rintro w2 ⟨⟨_, h3⟩, rfl⟩
      go_wp2
      go_roundw
      case rel => exact ⟨k + 1, by omega, by go_num, hE.trans h3⟩
      case measure => simp [intOf]; omega
    · go_wp2_with fail
      go_ret
      exact ⟨rfl, hE⟩
set_option maxHeartbeats 400000 in
theorem eqBlock_same (x : Q4) (w : World) :
    Calls Try.prog 63 #[.agg #[.int .i64 x.a, .int .i64 x.b, .int .i64 x.c, .int .i64 x.d], .agg #[.int .i64 x.a, .int .i64 x.b, .int .i64 x.c, .int .i64 x.d]] w fun e w' => e = .returned (.bool true) ∧ Ext w w' := by
  go_enter Try.func63, Try.ntmps63
  go_wp2
  go_ret
  exact ⟨rfl, ((Ext.refl _).alloc _).alloc _⟩
set_option maxRecDepth 100000 in
set_option maxHeartbeats 400000 in
theorem eqBlockS_same (p1 p2 : Option Addr) (n c1 c2 : Nat) (l : List Q4) (w : World) (h1 : SlT enc4 4 w p1 n l) (h2 : SlT enc4 4 w p2 n l) (hn : n ≤ 1048576) :
    Calls Try.prog 20 #[.slice p1 n c1, .slice p2 n c2] w fun e w' => e = .returned (.bool true) ∧ Ext w w' := by
  have hl := hid h1.length
  go_enter Try.func20, Try.ntmps20
  go_wp2
  go_loopw [5] (fun i wr => ∃ k : Nat, k ≤ n ∧ i = .int .i64 k ∧ Ext w wr) (fun i _ => n - (intOf i).toNat)
  case atStart => exact ⟨0, by omega, rfl, Ext.refl _⟩
  case round =>
    obtain ⟨k, hk, rfl, hE⟩ := hrel
    by_cases hlt : k < n
    · obtain ⟨b, off, x, rfl, hb, hx, c0, c1, c2, c3⟩ := (h1.ext hE).four hlt
      obtain ⟨b', off', x', rfl, hb', hx', d0, d1, d2, d3⟩ := (h2.ext hE).four hlt
      obtain rfl : x = x' := Option.some.inj (hx.out.symm.trans hx'.out)
      have hlt' : (k : Int) < (n : Int) := by omega
      go_wp2_with fail
      refine wp_region_later (by kernel_rfl) (by kernel_rfl) ?_
      repeat (quiet_step ((go_at_call 63; exact later_of (eqBlock_same _ _))))
      refine wpQuiet_nil ?_
      rintro w2 ⟨⟨_, h3⟩, rfl⟩
      go_wp2
      go_roundw
      case rel => exact ⟨k + 1, by omega, by go_num, hE.trans h3⟩
      case measure => simp [intOf]; omega
    · go_wp2_with fail
      go_ret
      exact ⟨rfl, hE⟩
set_option maxHeartbeats 400000 in
theorem eqConstraint_same (x : Q3) (w : World) :
    Calls Try.prog 66 #[.agg #[.int .i64 x.a, .int .i64 x.b, .int .i64 x.c], .agg #[.int .i64 x.a, .int .i64 x.b, .int .i64 x.c]] w fun e w' => e = .returned (.bool true) ∧ Ext w w' := by
  go_enter Try.func66, Try.ntmps66
  go_wp2
  go_ret
  exact ⟨rfl, ((Ext.refl _).alloc _).alloc _⟩
set_option maxRecDepth 100000 in
set_option maxHeartbeats 400000 in
theorem eqConstraintS_same (p1 p2 : Option Addr) (n c1 c2 : Nat) (l : List Q3) (w : World) (h1 : SlT enc3 3 w p1 n l) (h2 : SlT enc3 3 w p2 n l) (hn : n ≤ 1048576) :
    Calls Try.prog 29 #[.slice p1 n c1, .slice p2 n c2] w fun e w' => e = .returned (.bool true) ∧ Ext w w' := by
  have hl := hid h1.length
  go_enter Try.func29, Try.ntmps29
  go_wp2
  go_loopw [5] (fun i wr => ∃ k : Nat, k ≤ n ∧ i = .int .i64 k ∧ Ext w wr) (fun i _ => n - (intOf i).toNat)
  case atStart => exact ⟨0, by omega, rfl, Ext.refl _⟩
  case round =>
    obtain ⟨k, hk, rfl, hE⟩ := hrel
    by_cases hlt : k < n
    · obtain ⟨b, off, x, rfl, hb, hx, c0, c1, c2⟩ := (h1.ext hE).three hlt
      obtain ⟨b', off', x', rfl, hb', hx', d0, d1, d2⟩ := (h2.ext hE).three hlt
      obtain rfl : x = x' := Option.some.inj (hx.out.symm.trans hx'.out)
      have hlt' : (k : Int) < (n : Int) := by omega
      go_wp2_with fail
      refine wp_region_later (by kernel_rfl) (by kernel_rfl) ?_
      repeat (quiet_step ((go_at_call 66; exact later_of (eqConstraint_same _ _))))
      refine wpQuiet_nil ?_
      rintro w2 ⟨⟨_, h3⟩, rfl⟩
      go_wp2
      go_roundw
      case rel => exact ⟨k + 1, by omega, by go_num, hE.trans h3⟩
      case measure => simp [intOf]; omega
    · go_wp2_with fail
      go_ret
      exact ⟨rfl, hE⟩
set_option maxHeartbeats 400000 in
theorem szInt64S_any (p : Option Addr) (n c : Nat) (left : Int) (w : World) (h0 : 0 ≤ left) (h1 : left ≤ 1048576) (hm : n ≤ 9223372036854775807) :
    Calls Try.prog 79 #[.slice p n c, .int .i64 left] w fun e w' => e = .returned (.int .i64 (if left < n then -1 else left - n)) ∧ w = w' := by
  by_cases h : left < n
  · rw [if_pos h]
    go_enter Try.func79, Try.ntmps79
    go_wp2
    go_ret
    exact ⟨rfl, rfl⟩
  · rw [if_neg h]
    go_enter Try.func79, Try.ntmps79
    go_wp2
    go_ret
    exact ⟨rfl, rfl⟩
set_option maxHeartbeats 400000 in
theorem szBlockS_any (p : Option Addr) (n c : Nat) (left : Int) (w : World) (h0 : 0 ≤ left) (h1 : left ≤ 1048576) (hm : n ≤ 9223372036854775807) :
    Calls Try.prog 15 #[.slice p n c, .int .i64 left] w fun e w' => e = .returned (.int .i64 (if left < n then -1 else left - n)) ∧ w = w' := by
  by_cases h : left < n
  · rw [if_pos h]
    go_enter Try.func15, Try.ntmps15
    go_wp2
    go_ret
    exact ⟨rfl, rfl⟩
  · rw [if_neg h]
    go_enter Try.func15, Try.ntmps15
    go_wp2
    go_ret
    exact ⟨rfl, rfl⟩
end Go.Proofs.Ytnhiepgfgnemkaa
