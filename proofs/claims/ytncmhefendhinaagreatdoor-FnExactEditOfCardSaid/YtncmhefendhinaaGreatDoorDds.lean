/- Contracts of toXS and eqXS at slices of devices, of cells, of rows of edits. Condition: at most 2^20 elements each. -/
import Derived.Test.YtncmhefendhinaaGreatDoorDdv
import Derived.BigRegion
namespace Go.Proofs.YtncmhefendhinaaGreatDoor
open Go.RowKit

theorem infoD_CellS : (Tryz.prog.info? 72).map (fun i => (i.zero, i.size, i.bytes)) = some (some (.agg #[.string ⟨#[]⟩, .slice none 0 0, .slice none 0 0, .slice none 0 0]), 4, 88) := by kernel_rfl
set_option maxRecDepth 100000 in
set_option maxHeartbeats 4000000 in
theorem toCellSD_any (p : Option Addr) (n c base : Nat) (l : List CeD) (w : World) (h : SlD CeR 4 base w p n l) (hn : n ≤ 1048576) (hin : ∀ x ∈ l, (x.shs).length ≤ 1048576 ∧ (x.lbs).length ≤ 1048576 ∧ (x.ins).length ≤ 1048576) :
    Calls Tryz.prog 14 #[.slice p n c] w fun e w' => ∃ q, e = .returned (.slice q n n) ∧ SlD CeR 4 w.heap.size w' q n l ∧ Ext w w' := by
  obtain ⟨i0, hi, hz0, hz1, hz2⟩ := info_parts infoD_CellS
  have hl := hid h.length
  replace hin := hid hin
  go_enter Tryz.func14, Tryz.ntmps14
  go_wp2_with (refine wpList_make_full _ rfl _ _ 42 rfl w.heap.size 72 i0 _ 4 Tryz.underlying42 hi hz0 hz1 .i64 .i64 n n n rfl rfl rfl rfl (by rw [hz2]; omega) (by unfold maxLen; omega) (Nat.le_refl _) ?_; intro w1 ho hg)
  have hE : Ext w w1 := (Ext.refl _).grown hg (fun _ h => by cases h)
  have hF : FillD CeR 4 w.heap.size 72 w1 n 0 l := FillD.start ho
  clear hg ho
  go_wp2
  go_loopw [4] (fun i wr => ∃ k : Nat, k ≤ n ∧ i = .int .i64 k ∧ Ext w wr ∧ FillD CeR 4 w.heap.size 72 wr n k l) (fun i _ => n - (intOf i).toNat)
  case atStart => exact ⟨0, by omega, rfl, hE, hF⟩
  case round =>
    clear hE hF w1
    obtain ⟨k, hk, rfl, hE, hF⟩ := hrel
    by_cases hlt : k < n
    · have hltI : (k : Int) < n := by omega
      obtain ⟨b, off, x, cs, rfl, hb, hx, hcs, hc⟩ := (h.ext CeR.ok hE).get hlt
      have hm := hid (hin.out x (List.mem_of_getElem? hx.out))
      obtain ⟨p1, n1, c1, p2, n2, c2, p3, n3, c3, rfl, s1, s2, s3⟩ := hcs
      have m1 : n1 ≤ 1048576 := by have := s1.length; have := hm.out.1; omega
      have m2 : n2 ≤ 1048576 := by have := s2.length; have := hm.out.2.1; omega
      have m3 : n3 ≤ 1048576 := by have := s3.length; have := hm.out.2.2; omega
      have y0 := hc 0 _ rfl
      rw [Nat.add_zero] at y0
      have y1 := hc 1 _ rfl
      have y2 := hc 2 _ rfl
      have y3 := hc 3 _ rfl
      clear hc
      have hgw : w.heap.size + 1 ≤ wr.heap.size := by obtain ⟨_, ho, _⟩ := hF; have := (owns_lt ho).2; omega
      have hcall := hid (toCellD_any x p1 p2 p3 n1 c1 n2 c2 n3 c3 base wr s1 m1 s2 m2 s3 m3)
      go_wp2_with fail
      refine hcall.out.mono ?_
      rintro e w2 ⟨q1, q2, q3, rfl, t1, t2, t3, h2⟩
      clear y0 y1 y2 y3 hcall
      have hF2 := hid (hF.ext CeR.ok h2)
      have hE2 := hid (hE.trans h2)
      obtain ⟨cl, ho2, _⟩ := hF2.out
      obtain ⟨v0, e0⟩ := owns_cell ho2 (k * 4) (by omega)
      obtain ⟨v1, e1⟩ := owns_cell ho2 (k * 4 + 1) (by omega)
      obtain ⟨v2, e2⟩ := owns_cell ho2 (k * 4 + 2) (by omega)
      obtain ⟨v3, e3⟩ := owns_cell ho2 (k * 4 + 3) (by omega)
      have hf := owns_free ho2
      have hgl := (owns_lt ho2).2
      have hR : CeR (w.heap.size + 1) w2 x [.string x.s, .slice q1 n1 n1, .slice q2 n2 n2, .slice q3 n3 n3] := ⟨q1, n1, n1, q2, n2, n2, q3, n3, n3, rfl, t1.low okShape hgw, t2.low okLabel hgw, t3.low okInstance hgw⟩
      replace hR := hid hR
      go_wp2_with fail
      go_roundw
      case rel =>
        have h8 := putRow_ext (g := w.heap.size) (Nat.le_refl _) [.string x.s, .slice q1 n1 n1, .slice q2 n2 n2, .slice q3 n3 n3] (k * 4) _ hE2.out
        have h9 := hF2.out.put CeR.ok hlt hx.out hR.out
        simp only [putRow, Nat.add_assoc, Nat.reduceAdd] at h8 h9
        exact ⟨k + 1, by omega, by go_num, h8, h9⟩
      case measure => simp [intOf]; omega
    · obtain rfl : k = n := by omega
      go_wp2_with fail
      go_ret
      exact ⟨_, rfl, hF.fin CeR.ok hl.out, hE⟩
set_option maxRecDepth 100000 in
set_option maxHeartbeats 4000000 in
theorem eqCellSD_any (p q : Option Addr) (n c d b1 b2 : Nat) (l : List CeD) (w : World) (h1 : SlD CeR 4 b1 w p n l) (h2 : SlD CeR 4 b2 w q n l) (hn : n ≤ 1048576) (hin : ∀ x ∈ l, (x.shs).length ≤ 1048576 ∧ (x.lbs).length ≤ 1048576 ∧ (x.ins).length ≤ 1048576) :
    Calls Tryz.prog 21 #[.slice p n c, .slice q n d] w fun e w' => e = .returned (.bool true) ∧ Ext w w' := by
  have hl := hid h1.length
  replace hin := hid hin
  go_enter Tryz.func21, Tryz.ntmps21
  go_wp2
  go_loopw [5] (fun i wr => ∃ k : Nat, k ≤ n ∧ i = .int .i64 k ∧ Ext w wr) (fun i _ => n - (intOf i).toNat)
  case atStart => exact ⟨0, by omega, rfl, Ext.refl _⟩
  case round =>
    obtain ⟨k, hk, rfl, hE⟩ := hrel
    by_cases hlt : k < n
    · have hltI : (k : Int) < n := by omega
      obtain ⟨b, off, x, cs, rfl, hb, hx, hcs, hc⟩ := (h1.ext CeR.ok hE).get hlt
      obtain ⟨b', off', x', cs', rfl, hb', hx', hcs', hd⟩ := (h2.ext CeR.ok hE).get hlt
      obtain rfl : x = x' := Option.some.inj (hx.out.symm.trans hx'.out)
      have hm := hid (hin.out x (List.mem_of_getElem? hx.out))
      obtain ⟨p1, n1, c1, p2, n2, c2, p3, n3, c3, rfl, s1, s2, s3⟩ := hcs
      obtain ⟨q1, k1, d1, q2, k2, d2, q3, k3, d3, rfl, t1, t2, t3⟩ := hcs'
      obtain rfl : k1 = n1 := by have := s1.length; have := t1.length; omega
      obtain rfl : k2 = n2 := by have := s2.length; have := t2.length; omega
      obtain rfl : k3 = n3 := by have := s3.length; have := t3.length; omega
      have m1 : k1 ≤ 1048576 := by have := s1.length; have := hm.out.1; omega
      have m2 : k2 ≤ 1048576 := by have := s2.length; have := hm.out.2.1; omega
      have m3 : k3 ≤ 1048576 := by have := s3.length; have := hm.out.2.2; omega
      have u0 := hc 0 _ rfl
      rw [Nat.add_zero] at u0
      have u1 := hc 1 _ rfl
      have u2 := hc 2 _ rfl
      have u3 := hc 3 _ rfl
      have v0 := hd 0 _ rfl
      rw [Nat.add_zero] at v0
      have v1 := hd 1 _ rfl
      have v2 := hd 2 _ rfl
      have v3 := hd 3 _ rfl
      clear hc hd
      have hcall : ∀ P : Later wr, Calls Tryz.prog 37 #[.agg #[.string x.s, .slice p1 k1 c1, .slice p2 k2 c2, .slice p3 k3 c3], .agg #[.string x.s, .slice q1 k1 d1, .slice q2 k2 d2, .slice q3 k3 d3]] P.val fun e w' => e = .returned (.bool true) ∧ Ext P.val w' := fun P => eqCellD_any x p1 q1 p2 q2 p3 q3 k1 c1 d1 k2 c2 d2 k3 c3 d3 b1 b2 P.val (s1.ext okShape P.ok) (t1.ext okShape P.ok) m1 (s2.ext okLabel P.ok) (t2.ext okLabel P.ok) m2 (s3.ext okInstance P.ok) (t3.ext okInstance P.ok) m3
      replace hcall := hid hcall
      go_wp2_with fail
      refine wp_region_later (by kernel_rfl) (by kernel_rfl) ?_
      repeat (go_big_quiet_step ((go_at_call 37; exact later_of (hcall.out _))))
      refine wpQuiet_nil ?_
      rintro w2 ⟨⟨_, h3⟩, rfl⟩
      go_wp2
      go_roundw
      case rel => exact ⟨k + 1, by omega, by go_num, hE.trans h3⟩
      case measure => simp [intOf]; omega
    · go_wp2_with fail
      go_ret
      exact ⟨rfl, hE⟩
end Go.Proofs.YtncmhefendhinaaGreatDoor
