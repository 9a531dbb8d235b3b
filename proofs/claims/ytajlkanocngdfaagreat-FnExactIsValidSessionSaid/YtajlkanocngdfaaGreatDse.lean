/- Contracts of toEditS and eqEditS. Condition: at most 2^20 elements. -/
import Derived.Test.YtajlkanocngdfaaGreatDed
import Derived.Lib.AppendZeros
import Derived.BigRegion
namespace Go.Proofs.YtajlkanocngdfaaGreat
open Go.RowKit

theorem infoD_Edit : (Tryz.prog.info? 186).map (fun i => (i.zero, i.size, i.bytes)) = some (some (.agg #[.int .i64 0, .int .i64 0, .int .i64 0, .string ⟨#[]⟩, .int .i64 0, .int .i64 0, .int .i64 0, .int .i64 0, .int .i64 0, .int .i64 0, .int .i64 0, .int .i64 0, .string ⟨#[]⟩, .int .i64 0, .int .i64 0, .int .i64 0, .int .i64 0, .int .i64 0, .int .i64 0, .int .i64 0, .int .i64 0]), 21, 184) := by kernel_rfl
theorem sizeD_Edit : (Tryz.prog.info? 186).map (·.size) = some 21 := by kernel_rfl
theorem sizeL_Edit : (Tryz.prog.info? 170).map (·.size) = some 21 := by kernel_rfl
theorem toEditD_arr (x : EdD) (w : World) : Calls Tryz.prog 108 #[.agg (encEd x).toArray] w fun e w' => e = .returned (.agg (encEd x).toArray) ∧ Ext w w' := toEditD_any x w
theorem one_Edit (x : EdD) : (encEd x).toArray.all (·.oneCell') = true := by unfold encEd; simp [Value.oneCell']
set_option maxRecDepth 100000 in
set_option maxHeartbeats 4000000 in
theorem toEditSD_any (p : Option Addr) (n c base : Nat) (l : List EdD) (w : World) (h : SlD (Fl encEd) 21 base w p n l) (hn : n ≤ 1048576) :
    Calls Tryz.prog 77 #[.slice p n c] w fun e w' => ∃ q, e = .returned (.slice q n n) ∧ SlD (Fl encEd) 21 w.heap.size w' q n l ∧ Ext w w' := by
  obtain ⟨i0, hi, hz0, hz1, hz2⟩ := info_parts infoD_Edit
  have hl := hid h.length
  have hsD := hid sizeD_Edit
  have hsL := hid sizeL_Edit
  go_enter Tryz.func77, Tryz.ntmps77
  go_wp2_with (refine wpList_make_full _ rfl _ _ 127 rfl w.heap.size 186 i0 _ 21 Tryz.underlying127 hi hz0 hz1 .i64 .i64 n n n rfl rfl rfl rfl (by rw [hz2]; omega) (by unfold maxLen; omega) (Nat.le_refl _) ?_; intro w1 ho hg)
  have hE : Ext w w1 := (Ext.refl _).grown hg (fun _ h => by cases h)
  have hF : FillD (Fl encEd) 21 w.heap.size 186 w1 n 0 l := FillD.start ho
  clear hg ho
  go_wp2
  go_loopw [4] (fun i wr => ∃ k : Nat, k ≤ n ∧ i = .int .i64 k ∧ Ext w wr ∧ FillD (Fl encEd) 21 w.heap.size 186 wr n k l) (fun i _ => n - (intOf i).toNat)
  case atStart => exact ⟨0, by omega, rfl, hE, hF⟩
  case round =>
    clear hE hF w1
    obtain ⟨k, hk, rfl, hE, hF⟩ := hrel
    by_cases hlt : k < n
    · have hltI : (k : Int) < n := by omega
      obtain ⟨b, off, x, cs, rfl, hb, hx, hcs, hc⟩ := (h.ext okEdit hE).get hlt
      obtain rfl : cs = encEd x := hcs
      have hr := hid (show wr.rangeAt b (off + k * 21) (encEd x) from hc)
      clear hc
      go_wp2_with (refine wpList_load_mid rfl 170 (Operand.tmp 18) rfl b (off + k * 21) rfl (encEd x) _ hr.out Tryz.underlying170 rfl hsL.out ?_)
      refine (toEditD_arr x _).mono ?_
      rintro e w2 ⟨rfl, h2⟩
      have hF2 := hid (hF.ext okEdit h2)
      have hE2 := hid (hE.trans h2)
      obtain ⟨cl, ho2, _⟩ := hF2.out
      have ht := hid (show w2.there w.heap.size (k * 21) (encEd x).toArray.size from there_owns (o := k * 21) (m := 21) ho2 (by omega))
      have hs2 := hid (show (Tryz.prog.info? 186).map (·.size) = some (encEd x).toArray.size from hsD.out)
      have h1c := hid (one_Edit x)
      clear ho2
      go_wp2_with (refine wpList_store_mid (op := ⟨none, _, _, _, _, _⟩) rfl 186 (Operand.tmp 21) _ rfl w.heap.size (k * 21) (encEd x).toArray rfl rfl ht.out hs2.out h1c.out ?_)
      go_roundw
      case rel =>
        have h9 := hF2.out.put okEdit hlt hx.out rfl
        rw [putRow_eq] at h9
        exact ⟨k + 1, by omega, by go_num, ext_setCells (Nat.le_refl _) _ _ _ hE2.out, h9⟩
      case measure => simp [intOf]; omega
    · obtain rfl : k = n := by omega
      go_wp2_with fail
      go_ret
      exact ⟨_, rfl, hF.fin okEdit hl.out, hE⟩
set_option maxRecDepth 100000 in
set_option maxHeartbeats 4000000 in
theorem eqEditSD_any (p1 p2 : Option Addr) (n c1 c2 b1 b2 : Nat) (l : List EdD) (w : World) (h1 : SlD (Fl encEd) 21 b1 w p1 n l) (h2 : SlD (Fl encEd) 21 b2 w p2 n l) (hn : n ≤ 1048576) :
    Calls Tryz.prog 95 #[.slice p1 n c1, .slice p2 n c2] w fun e w' => e = .returned (.bool true) ∧ Ext w w' := by
  have hl := hid h1.length
  have hsD := hid sizeD_Edit
  go_enter Tryz.func95, Tryz.ntmps95
  go_wp2
  go_loopw [5] (fun i wr => ∃ k : Nat, k ≤ n ∧ i = .int .i64 k ∧ Ext w wr) (fun i _ => n - (intOf i).toNat)
  case atStart => exact ⟨0, by omega, rfl, Ext.refl _⟩
  case round =>
    obtain ⟨k, hk, rfl, hE⟩ := hrel
    by_cases hlt : k < n
    · have hltI : (k : Int) < n := by omega
      obtain ⟨b, off, x, cs, rfl, hb, hx, hcs, hc⟩ := (h1.ext okEdit hE).get hlt
      obtain ⟨b', off', x', cs', rfl, hb', hx', hcs', hd⟩ := (h2.ext okEdit hE).get hlt
      obtain rfl : x = x' := Option.some.inj (hx.out.symm.trans hx'.out)
      obtain rfl : cs = encEd x := hcs
      obtain rfl : cs' = encEd x := hcs'
      have hr := hid (show ∀ W, (∃ p : Later wr, W = p.val) → W.rangeAt b (off + k * 21) (encEd x) from fun W ⟨p, e⟩ j v hv => by rw [e]; exact (p.ok.cells b _ hb).trans (hc j v hv))
      have hr' := hid (show ∀ W, (∃ p : Later wr, W = p.val) → W.rangeAt b' (off' + k * 21) (encEd x) from fun W ⟨p, e⟩ j v hv => by rw [e]; exact (p.ok.cells b' _ hb').trans (hd j v hv))
      clear hc hd
      go_wp2_with fail
      refine wp_region_later (by kernel_rfl) (by kernel_rfl) ?_
      iterate 3 go_big_quiet_step (fail)
      go_big_quiet_want
      refine quiet_load_rowD 186 (Operand.tmp 19) rfl b (off + k * 21) rfl (encEd x) _ hr.out Tryz.underlying186 rfl hsD.out ?_
      go_simp
      go_big_quiet_on
      iterate 3 go_big_quiet_step (fail)
      go_big_quiet_want
      refine quiet_load_rowD 186 (Operand.tmp 23) rfl b' (off' + k * 21) rfl (encEd x) _ hr'.out Tryz.underlying186 rfl hsD.out ?_
      go_simp
      go_big_quiet_on
      repeat (go_big_quiet_step ((go_at_call 129; exact later_of (eqEditD_any _ _))))
      refine wpQuiet_nil ?_
      rintro w2 ⟨⟨_, h3⟩, rfl⟩
      go_wp2
      go_roundw
      case rel => exact ⟨k + 1, by omega, by go_num, hE.trans h3⟩
      case measure => simp [intOf]; omega
    · go_wp2_with fail
      go_ret
      exact ⟨rfl, hE⟩
end Go.Proofs.YtajlkanocngdfaaGreat
