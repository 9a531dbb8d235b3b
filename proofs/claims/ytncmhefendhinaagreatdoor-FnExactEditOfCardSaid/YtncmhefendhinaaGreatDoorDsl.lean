/- Contracts of toXS and eqXS at slices of elements without inner slices. Condition: at most 2^20 elements. -/
import Derived.Test.YtncmhefendhinaaGreatDoorDfl
import Derived.Lib.AppendZeros
import Derived.BigRegion
namespace Go.Proofs.YtncmhefendhinaaGreatDoor
open Go.RowKit

theorem infoD_Shape : (Tryz.prog.info? 29).map (fun i => (i.zero, i.size, i.bytes)) = some (some (.agg #[.int .i64 0, .int .i64 0, .int .i64 0, .int .i64 0, .int .i64 0]), 5, 40) := by kernel_rfl
set_option maxRecDepth 100000 in
set_option maxHeartbeats 4000000 in
theorem toShapeSD_any (p : Option Addr) (n c base : Nat) (l : List ShD) (w : World) (h : SlD (Fl encSh) 5 base w p n l) (hn : n ≤ 1048576) :
    Calls Tryz.prog 51 #[.slice p n c] w fun e w' => ∃ q, e = .returned (.slice q n n) ∧ SlD (Fl encSh) 5 w.heap.size w' q n l ∧ Ext w w' := by
  obtain ⟨i0, hi, hz0, hz1, hz2⟩ := info_parts infoD_Shape
  have hl := hid h.length
  go_enter Tryz.func51, Tryz.ntmps51
  go_wp2_with (refine wpList_make_full _ rfl _ _ 68 rfl w.heap.size 29 i0 _ 5 Tryz.underlying68 hi hz0 hz1 .i64 .i64 n n n rfl rfl rfl rfl (by rw [hz2]; omega) (by unfold maxLen; omega) (Nat.le_refl _) ?_; intro w1 ho hg)
  have hE : Ext w w1 := (Ext.refl _).grown hg (fun _ h => by cases h)
  have hF : FillD (Fl encSh) 5 w.heap.size 29 w1 n 0 l := FillD.start ho
  clear hg ho
  go_wp2
  go_loopw [4] (fun i wr => ∃ k : Nat, k ≤ n ∧ i = .int .i64 k ∧ Ext w wr ∧ FillD (Fl encSh) 5 w.heap.size 29 wr n k l) (fun i _ => n - (intOf i).toNat)
  case atStart => exact ⟨0, by omega, rfl, hE, hF⟩
  case round =>
    clear hE hF w1
    obtain ⟨k, hk, rfl, hE, hF⟩ := hrel
    by_cases hlt : k < n
    · have hltI : (k : Int) < n := by omega
      obtain ⟨b, off, x, cs, rfl, hb, hx, hcs, hc⟩ := (h.ext okShape hE).get hlt
      obtain rfl : cs = encSh x := hcs
      have c0 := hc 0 _ rfl
      rw [Nat.add_zero] at c0
      have c1 := hc 1 _ rfl
      have c2 := hc 2 _ rfl
      have c3 := hc 3 _ rfl
      have c4 := hc 4 _ rfl
      clear hc
      go_wp2_with fail
      refine (toShapeD_any x _).mono ?_
      rintro e w2 ⟨rfl, h2⟩
      clear c0 c1 c2 c3 c4
      have hF2 := hid (hF.ext okShape h2)
      have hE2 := hid (hE.trans h2)
      obtain ⟨cl, ho2, _⟩ := hF2.out
      obtain ⟨v0, e0⟩ := owns_cell ho2 (k * 5) (by omega)
      obtain ⟨v1, e1⟩ := owns_cell ho2 (k * 5 + 1) (by omega)
      obtain ⟨v2, e2⟩ := owns_cell ho2 (k * 5 + 2) (by omega)
      obtain ⟨v3, e3⟩ := owns_cell ho2 (k * 5 + 3) (by omega)
      obtain ⟨v4, e4⟩ := owns_cell ho2 (k * 5 + 4) (by omega)
      have hf := owns_free ho2
      have hgl := (owns_lt ho2).2
      go_wp2_with fail
      go_roundw
      case rel =>
        have h8 := putRow_ext (g := w.heap.size) (Nat.le_refl _) (encSh x) (k * 5) _ hE2.out
        have h9 := hF2.out.put okShape hlt hx.out rfl
        simp only [putRow, encSh, Nat.add_assoc, Nat.reduceAdd] at h8 h9
        exact ⟨k + 1, by omega, by go_num, h8, h9⟩
      case measure => simp [intOf]; omega
    · obtain rfl : k = n := by omega
      go_wp2_with fail
      go_ret
      exact ⟨_, rfl, hF.fin okShape hl.out, hE⟩
theorem infoD_Label : (Tryz.prog.info? 33).map (fun i => (i.zero, i.size, i.bytes)) = some (some (.agg #[.int .i64 0, .int .i64 0, .int .i64 0, .string ⟨#[]⟩]), 4, 40) := by kernel_rfl
set_option maxRecDepth 100000 in
set_option maxHeartbeats 4000000 in
theorem toLabelSD_any (p : Option Addr) (n c base : Nat) (l : List LbD) (w : World) (h : SlD (Fl encLb) 4 base w p n l) (hn : n ≤ 1048576) :
    Calls Tryz.prog 52 #[.slice p n c] w fun e w' => ∃ q, e = .returned (.slice q n n) ∧ SlD (Fl encLb) 4 w.heap.size w' q n l ∧ Ext w w' := by
  obtain ⟨i0, hi, hz0, hz1, hz2⟩ := info_parts infoD_Label
  have hl := hid h.length
  go_enter Tryz.func52, Tryz.ntmps52
  go_wp2_with (refine wpList_make_full _ rfl _ _ 69 rfl w.heap.size 33 i0 _ 4 Tryz.underlying69 hi hz0 hz1 .i64 .i64 n n n rfl rfl rfl rfl (by rw [hz2]; omega) (by unfold maxLen; omega) (Nat.le_refl _) ?_; intro w1 ho hg)
  have hE : Ext w w1 := (Ext.refl _).grown hg (fun _ h => by cases h)
  have hF : FillD (Fl encLb) 4 w.heap.size 33 w1 n 0 l := FillD.start ho
  clear hg ho
  go_wp2
  go_loopw [4] (fun i wr => ∃ k : Nat, k ≤ n ∧ i = .int .i64 k ∧ Ext w wr ∧ FillD (Fl encLb) 4 w.heap.size 33 wr n k l) (fun i _ => n - (intOf i).toNat)
  case atStart => exact ⟨0, by omega, rfl, hE, hF⟩
  case round =>
    clear hE hF w1
    obtain ⟨k, hk, rfl, hE, hF⟩ := hrel
    by_cases hlt : k < n
    · have hltI : (k : Int) < n := by omega
      obtain ⟨b, off, x, cs, rfl, hb, hx, hcs, hc⟩ := (h.ext okLabel hE).get hlt
      obtain rfl : cs = encLb x := hcs
      have c0 := hc 0 _ rfl
      rw [Nat.add_zero] at c0
      have c1 := hc 1 _ rfl
      have c2 := hc 2 _ rfl
      have c3 := hc 3 _ rfl
      clear hc
      go_wp2_with fail
      refine (toLabelD_any x _).mono ?_
      rintro e w2 ⟨rfl, h2⟩
      clear c0 c1 c2 c3
      have hF2 := hid (hF.ext okLabel h2)
      have hE2 := hid (hE.trans h2)
      obtain ⟨cl, ho2, _⟩ := hF2.out
      obtain ⟨v0, e0⟩ := owns_cell ho2 (k * 4) (by omega)
      obtain ⟨v1, e1⟩ := owns_cell ho2 (k * 4 + 1) (by omega)
      obtain ⟨v2, e2⟩ := owns_cell ho2 (k * 4 + 2) (by omega)
      obtain ⟨v3, e3⟩ := owns_cell ho2 (k * 4 + 3) (by omega)
      have hf := owns_free ho2
      have hgl := (owns_lt ho2).2
      go_wp2_with fail
      go_roundw
      case rel =>
        have h8 := putRow_ext (g := w.heap.size) (Nat.le_refl _) (encLb x) (k * 4) _ hE2.out
        have h9 := hF2.out.put okLabel hlt hx.out rfl
        simp only [putRow, encLb, Nat.add_assoc, Nat.reduceAdd] at h8 h9
        exact ⟨k + 1, by omega, by go_num, h8, h9⟩
      case measure => simp [intOf]; omega
    · obtain rfl : k = n := by omega
      go_wp2_with fail
      go_ret
      exact ⟨_, rfl, hF.fin okLabel hl.out, hE⟩
theorem infoD_Instance : (Tryz.prog.info? 37).map (fun i => (i.zero, i.size, i.bytes)) = some (some (.agg #[.int .i64 0, .int .i64 0, .int .i64 0, .int .i64 0, .int .i64 0, .int .i64 0, .int .i64 0, .int .i64 0]), 8, 64) := by kernel_rfl
set_option maxRecDepth 100000 in
set_option maxHeartbeats 4000000 in
theorem toInstanceSD_any (p : Option Addr) (n c base : Nat) (l : List InD) (w : World) (h : SlD (Fl encIn) 8 base w p n l) (hn : n ≤ 1048576) :
    Calls Tryz.prog 53 #[.slice p n c] w fun e w' => ∃ q, e = .returned (.slice q n n) ∧ SlD (Fl encIn) 8 w.heap.size w' q n l ∧ Ext w w' := by
  obtain ⟨i0, hi, hz0, hz1, hz2⟩ := info_parts infoD_Instance
  have hl := hid h.length
  go_enter Tryz.func53, Tryz.ntmps53
  go_wp2_with (refine wpList_make_full _ rfl _ _ 70 rfl w.heap.size 37 i0 _ 8 Tryz.underlying70 hi hz0 hz1 .i64 .i64 n n n rfl rfl rfl rfl (by rw [hz2]; omega) (by unfold maxLen; omega) (Nat.le_refl _) ?_; intro w1 ho hg)
  have hE : Ext w w1 := (Ext.refl _).grown hg (fun _ h => by cases h)
  have hF : FillD (Fl encIn) 8 w.heap.size 37 w1 n 0 l := FillD.start ho
  clear hg ho
  go_wp2
  go_loopw [4] (fun i wr => ∃ k : Nat, k ≤ n ∧ i = .int .i64 k ∧ Ext w wr ∧ FillD (Fl encIn) 8 w.heap.size 37 wr n k l) (fun i _ => n - (intOf i).toNat)
  case atStart => exact ⟨0, by omega, rfl, hE, hF⟩
  case round =>
    clear hE hF w1
    obtain ⟨k, hk, rfl, hE, hF⟩ := hrel
    by_cases hlt : k < n
    · have hltI : (k : Int) < n := by omega
      obtain ⟨b, off, x, cs, rfl, hb, hx, hcs, hc⟩ := (h.ext okInstance hE).get hlt
      obtain rfl : cs = encIn x := hcs
      have c0 := hc 0 _ rfl
      rw [Nat.add_zero] at c0
      have c1 := hc 1 _ rfl
      have c2 := hc 2 _ rfl
      have c3 := hc 3 _ rfl
      have c4 := hc 4 _ rfl
      have c5 := hc 5 _ rfl
      have c6 := hc 6 _ rfl
      have c7 := hc 7 _ rfl
      clear hc
      go_wp2_with fail
      refine (toInstanceD_any x _).mono ?_
      rintro e w2 ⟨rfl, h2⟩
      clear c0 c1 c2 c3 c4 c5 c6 c7
      have hF2 := hid (hF.ext okInstance h2)
      have hE2 := hid (hE.trans h2)
      obtain ⟨cl, ho2, _⟩ := hF2.out
      obtain ⟨v0, e0⟩ := owns_cell ho2 (k * 8) (by omega)
      obtain ⟨v1, e1⟩ := owns_cell ho2 (k * 8 + 1) (by omega)
      obtain ⟨v2, e2⟩ := owns_cell ho2 (k * 8 + 2) (by omega)
      obtain ⟨v3, e3⟩ := owns_cell ho2 (k * 8 + 3) (by omega)
      obtain ⟨v4, e4⟩ := owns_cell ho2 (k * 8 + 4) (by omega)
      obtain ⟨v5, e5⟩ := owns_cell ho2 (k * 8 + 5) (by omega)
      obtain ⟨v6, e6⟩ := owns_cell ho2 (k * 8 + 6) (by omega)
      obtain ⟨v7, e7⟩ := owns_cell ho2 (k * 8 + 7) (by omega)
      have hf := owns_free ho2
      have hgl := (owns_lt ho2).2
      go_wp2_with fail
      go_roundw
      case rel =>
        have h8 := putRow_ext (g := w.heap.size) (Nat.le_refl _) (encIn x) (k * 8) _ hE2.out
        have h9 := hF2.out.put okInstance hlt hx.out rfl
        simp only [putRow, encIn, Nat.add_assoc, Nat.reduceAdd] at h8 h9
        exact ⟨k + 1, by omega, by go_num, h8, h9⟩
      case measure => simp [intOf]; omega
    · obtain rfl : k = n := by omega
      go_wp2_with fail
      go_ret
      exact ⟨_, rfl, hF.fin okInstance hl.out, hE⟩
set_option maxRecDepth 100000 in
set_option maxHeartbeats 4000000 in
theorem eqShapeSD_any (p1 p2 : Option Addr) (n c1 c2 b1 b2 : Nat) (l : List ShD) (w : World) (h1 : SlD (Fl encSh) 5 b1 w p1 n l) (h2 : SlD (Fl encSh) 5 b2 w p2 n l) (hn : n ≤ 1048576) :
    Calls Tryz.prog 68 #[.slice p1 n c1, .slice p2 n c2] w fun e w' => e = .returned (.bool true) ∧ Ext w w' := by
  have hl := hid h1.length
  go_enter Tryz.func68, Tryz.ntmps68
  go_wp2
  go_loopw [5] (fun i wr => ∃ k : Nat, k ≤ n ∧ i = .int .i64 k ∧ Ext w wr) (fun i _ => n - (intOf i).toNat)
  case atStart => exact ⟨0, by omega, rfl, Ext.refl _⟩
  case round =>
    obtain ⟨k, hk, rfl, hE⟩ := hrel
    by_cases hlt : k < n
    · have hltI : (k : Int) < n := by omega
      obtain ⟨b, off, x, cs, rfl, hb, hx, hcs, hc⟩ := (h1.ext okShape hE).get hlt
      obtain ⟨b', off', x', cs', rfl, hb', hx', hcs', hd⟩ := (h2.ext okShape hE).get hlt
      obtain rfl : x = x' := Option.some.inj (hx.out.symm.trans hx'.out)
      obtain rfl : cs = encSh x := hcs
      obtain rfl : cs' = encSh x := hcs'
      have c0 := hc 0 _ rfl
      rw [Nat.add_zero] at c0
      have c1 := hc 1 _ rfl
      have c2 := hc 2 _ rfl
      have c3 := hc 3 _ rfl
      have c4 := hc 4 _ rfl
      have d0 := hd 0 _ rfl
      rw [Nat.add_zero] at d0
      have d1 := hd 1 _ rfl
      have d2 := hd 2 _ rfl
      have d3 := hd 3 _ rfl
      have d4 := hd 4 _ rfl
      clear hc hd
      go_wp2_with fail
      refine wp_region_later (by kernel_rfl) (by kernel_rfl) ?_
      repeat (quiet_step ((go_at_call 18; exact later_of (eqShapeD_any _ _))))
      refine wpQuiet_nil ?_
      rintro w2 ⟨⟨_, h3⟩, rfl⟩
      go_wp2
      go_roundw
      case rel => exact ⟨k + 1, by omega, by go_num, hE.trans h3⟩
      case measure => simp [intOf]; omega
    · go_wp2_with fail
      go_ret
      exact ⟨rfl, hE⟩
set_option maxRecDepth 100000 in
set_option maxHeartbeats 4000000 in
theorem eqLabelSD_any (p1 p2 : Option Addr) (n c1 c2 b1 b2 : Nat) (l : List LbD) (w : World) (h1 : SlD (Fl encLb) 4 b1 w p1 n l) (h2 : SlD (Fl encLb) 4 b2 w p2 n l) (hn : n ≤ 1048576) :
    Calls Tryz.prog 69 #[.slice p1 n c1, .slice p2 n c2] w fun e w' => e = .returned (.bool true) ∧ Ext w w' := by
  have hl := hid h1.length
  go_enter Tryz.func69, Tryz.ntmps69
  go_wp2
  go_loopw [5] (fun i wr => ∃ k : Nat, k ≤ n ∧ i = .int .i64 k ∧ Ext w wr) (fun i _ => n - (intOf i).toNat)
  case atStart => exact ⟨0, by omega, rfl, Ext.refl _⟩
  case round =>
    obtain ⟨k, hk, rfl, hE⟩ := hrel
    by_cases hlt : k < n
    · have hltI : (k : Int) < n := by omega
      obtain ⟨b, off, x, cs, rfl, hb, hx, hcs, hc⟩ := (h1.ext okLabel hE).get hlt
      obtain ⟨b', off', x', cs', rfl, hb', hx', hcs', hd⟩ := (h2.ext okLabel hE).get hlt
      obtain rfl : x = x' := Option.some.inj (hx.out.symm.trans hx'.out)
      obtain rfl : cs = encLb x := hcs
      obtain rfl : cs' = encLb x := hcs'
      have c0 := hc 0 _ rfl
      rw [Nat.add_zero] at c0
      have c1 := hc 1 _ rfl
      have c2 := hc 2 _ rfl
      have c3 := hc 3 _ rfl
      have d0 := hd 0 _ rfl
      rw [Nat.add_zero] at d0
      have d1 := hd 1 _ rfl
      have d2 := hd 2 _ rfl
      have d3 := hd 3 _ rfl
      clear hc hd
      go_wp2_with fail
      refine wp_region_later (by kernel_rfl) (by kernel_rfl) ?_
      repeat (quiet_step ((go_at_call 19; exact later_of (eqLabelD_any _ _))))
      refine wpQuiet_nil ?_
      rintro w2 ⟨⟨_, h3⟩, rfl⟩
      go_wp2
      go_roundw
      case rel => exact ⟨k + 1, by omega, by go_num, hE.trans h3⟩
      case measure => simp [intOf]; omega
    · go_wp2_with fail
      go_ret
      exact ⟨rfl, hE⟩
set_option maxRecDepth 100000 in
set_option maxHeartbeats 4000000 in
theorem eqInstanceSD_any (p1 p2 : Option Addr) (n c1 c2 b1 b2 : Nat) (l : List InD) (w : World) (h1 : SlD (Fl encIn) 8 b1 w p1 n l) (h2 : SlD (Fl encIn) 8 b2 w p2 n l) (hn : n ≤ 1048576) :
    Calls Tryz.prog 70 #[.slice p1 n c1, .slice p2 n c2] w fun e w' => e = .returned (.bool true) ∧ Ext w w' := by
  have hl := hid h1.length
  go_enter Tryz.func70, Tryz.ntmps70
  go_wp2
  go_loopw [5] (fun i wr => ∃ k : Nat, k ≤ n ∧ i = .int .i64 k ∧ Ext w wr) (fun i _ => n - (intOf i).toNat)
  case atStart => exact ⟨0, by omega, rfl, Ext.refl _⟩
  case round =>
    obtain ⟨k, hk, rfl, hE⟩ := hrel
    by_cases hlt : k < n
    · have hltI : (k : Int) < n := by omega
      obtain ⟨b, off, x, cs, rfl, hb, hx, hcs, hc⟩ := (h1.ext okInstance hE).get hlt
      obtain ⟨b', off', x', cs', rfl, hb', hx', hcs', hd⟩ := (h2.ext okInstance hE).get hlt
      obtain rfl : x = x' := Option.some.inj (hx.out.symm.trans hx'.out)
      obtain rfl : cs = encIn x := hcs
      obtain rfl : cs' = encIn x := hcs'
      have c0 := hc 0 _ rfl
      rw [Nat.add_zero] at c0
      have c1 := hc 1 _ rfl
      have c2 := hc 2 _ rfl
      have c3 := hc 3 _ rfl
      have c4 := hc 4 _ rfl
      have c5 := hc 5 _ rfl
      have c6 := hc 6 _ rfl
      have c7 := hc 7 _ rfl
      have d0 := hd 0 _ rfl
      rw [Nat.add_zero] at d0
      have d1 := hd 1 _ rfl
      have d2 := hd 2 _ rfl
      have d3 := hd 3 _ rfl
      have d4 := hd 4 _ rfl
      have d5 := hd 5 _ rfl
      have d6 := hd 6 _ rfl
      have d7 := hd 7 _ rfl
      clear hc hd
      go_wp2_with fail
      refine wp_region_later (by kernel_rfl) (by kernel_rfl) ?_
      repeat (quiet_step ((go_at_call 20; exact later_of (eqInstanceD_any _ _))))
      refine wpQuiet_nil ?_
      rintro w2 ⟨⟨_, h3⟩, rfl⟩
      go_wp2
      go_roundw
      case rel => exact ⟨k + 1, by omega, by go_num, hE.trans h3⟩
      case measure => simp [intOf]; omega
    · go_wp2_with fail
      go_ret
      exact ⟨rfl, hE⟩
end Go.Proofs.YtncmhefendhinaaGreatDoor
