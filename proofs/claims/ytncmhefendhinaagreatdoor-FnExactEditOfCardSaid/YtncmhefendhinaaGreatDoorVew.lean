/- The edit that words describe, of the program, whatever the words. Condition: lengths that fit; the tables as they are laid; a valid library. -/
import Derived.Test.YtncmhefendhinaaGreatDoorVep
import Derived.Test.YtncmhefendhinaaGreatDoorVeq
import Derived.BigRegion
import Derived.Deep.RegionHeld3
import Derived.StillTailTactics
namespace Go.Proofs.YtncmhefendhinaaGreatDoor
open Go.RowKit Go.PlainAid
set_option linter.unusedVariables false
set_option linter.unusedSimpArgs false

set_option maxRecDepth 100000 in
set_option maxHeartbeats 4000000 in
theorem pEditOf_any (W : List ByteArray) (l : List CeD) (p q : Option Addr) (n c m d base base2 : Nat) (w : World) (hV : Vrs w) (h : SlD CeR 4 base w p n l) (hn : n ≤ 1048576) (hS : SlD (Fl encW) 1 base2 w q m W) (hm : m ≤ 1048576) (hd : m ≤ d) (hws : ∀ y ∈ W, y.size ≤ 1048576) :
    Calls Tryz.prog 17 #[.agg #[.slice p n c], .slice q m d] w fun e w' => e = .returned (.tuple #[.agg (encEd (edV l W).1).toArray, .int .i64 (edV l W).2]) ∧ Ext w w' := by
  cases W with
  | nil =>
    obtain rfl : m = 0 := by have := hS.length; simpa using this.symm
    have hr : Hid (edV l [] = (zE, 4)) := rfl
    go_enter Tryz.func17, Tryz.ntmps17
    go_upto_region 1 with (fail)
    generalize hW : World.alloc (World.alloc _ _) _ = W0
    obtain ⟨E0, z0, b0, b1⟩ := boxes2 hW
    clear hW z0
    replace b0 := hid (show Blk W0 (w.heap.size) [_] _ from b0)
    replace b1 := hid (show Blk W0 (w.heap.size + 1) (encEd zE) _ from b1)
    have r1 := hid (there_blk b1.out)
    go_wp2_with (first | (refine wpList_build rfl 39 #[] rfl [] rfl (encEd zE).toArray built_zE ?_) | ((with_reducible refine at_store ?_); refine wpList_store_mid rfl 39 (Operand.tmp 4) _ rfl (w.heap.size + 1) 0 (encEd zE).toArray rfl rfl r1.out (sz_Ed _) (one_Edit _) ?_))
    generalize hV9 : World.setCells _ _ _ _ = W9
    have kB : Blk W9 (w.heap.size + 1) (encEd zE) 39 := by rw [← hV9]; exact b1.out.setAll (vs := encEd zE) rfl
    have hE2 : Ext w W9 := by rw [← hV9]; exact ext_setCells (by omega) _ _ _ E0
    clear hV9
    exact bodyPost_ret (v := .tuple #[.agg (encEd zE).toArray, .int .i64 4]) (results_cell_tmp Tryz.results17 _ _ (w.heap.size + 1) 39 (encEd zE).toArray (0, 0) _ rfl kB Tryz.underlying39 rfl (sz_Ed _)) rfl ⟨by rw [hr.out], hE2⟩
  | cons s ws =>
    obtain ⟨m, rfl⟩ : ∃ k, m = k + 1 := ⟨m - 1, by have := hS.length; rw [List.length_cons] at this; omega⟩
    rcases kw_cases s with ⟨hj, _⟩ | ⟨j, hj10, _, hj⟩
    · exact pEditOf_no s ws l p q n c m d base base2 w hV h hn hS (by omega) hd hws hj
    · by_cases hrw : rwV l (kdJ j) ws = 0
      · match j, hj10, hj, hrw with
        | 0, _, hj, hrw => exact pEditOf_good0 s ws l p q n c m d base base2 w hV h hn hS (by omega) hd hws hj hrw
        | 1, _, hj, hrw => exact pEditOf_good1 s ws l p q n c m d base base2 w hV h hn hS (by omega) hd hws hj hrw
        | 2, _, hj, hrw => exact pEditOf_good2 s ws l p q n c m d base base2 w hV h hn hS (by omega) hd hws hj hrw
        | 3, _, hj, hrw => exact pEditOf_good3 s ws l p q n c m d base base2 w hV h hn hS (by omega) hd hws hj hrw
        | 4, _, hj, hrw => exact pEditOf_good4 s ws l p q n c m d base base2 w hV h hn hS (by omega) hd hws hj hrw
        | 5, _, hj, hrw => exact pEditOf_good5 s ws l p q n c m d base base2 w hV h hn hS (by omega) hd hws hj hrw
        | 6, _, hj, hrw => exact pEditOf_good6 s ws l p q n c m d base base2 w hV h hn hS (by omega) hd hws hj hrw
        | 7, _, hj, hrw => exact pEditOf_good7 s ws l p q n c m d base base2 w hV h hn hS (by omega) hd hws hj hrw
        | 8, _, hj, hrw => exact pEditOf_good8 s ws l p q n c m d base base2 w hV h hn hS (by omega) hd hws hj hrw
        | 9, _, hj, hrw => exact pEditOf_good9 s ws l p q n c m d base base2 w hV h hn hS (by omega) hd hws hj hrw
      · match j, hj10, hj, hrw with
        | 0, _, hj, hrw => exact pEditOf_bad0 s ws l p q n c m d base base2 w hV h hn hS (by omega) hd hws hj hrw
        | 1, _, hj, hrw => exact pEditOf_bad1 s ws l p q n c m d base base2 w hV h hn hS (by omega) hd hws hj hrw
        | 2, _, hj, hrw => exact pEditOf_bad2 s ws l p q n c m d base base2 w hV h hn hS (by omega) hd hws hj hrw
        | 3, _, hj, hrw => exact pEditOf_bad3 s ws l p q n c m d base base2 w hV h hn hS (by omega) hd hws hj hrw
        | 4, _, hj, hrw => exact pEditOf_bad4 s ws l p q n c m d base base2 w hV h hn hS (by omega) hd hws hj hrw
        | 5, _, hj, hrw => exact pEditOf_bad5 s ws l p q n c m d base base2 w hV h hn hS (by omega) hd hws hj hrw
        | 6, _, hj, hrw => exact pEditOf_bad6 s ws l p q n c m d base base2 w hV h hn hS (by omega) hd hws hj hrw
        | 7, _, hj, hrw => exact pEditOf_bad7 s ws l p q n c m d base base2 w hV h hn hS (by omega) hd hws hj hrw
        | 8, _, hj, hrw => exact pEditOf_bad8 s ws l p q n c m d base base2 w hV h hn hS (by omega) hd hws hj hrw
        | 9, _, hj, hrw => exact pEditOf_bad9 s ws l p q n c m d base base2 w hV h hn hS (by omega) hd hws hj hrw

end Go.Proofs.YtncmhefendhinaaGreatDoor
