/- Contracts of sizable, grow, Grow (program). Condition: at most 2^20 rectangles. -/
import Derived.Test.YtaigndaabmelhaaGrw
import Derived.Test.YtaigndaabmelhaaReg
namespace Go.Proofs.Ytaigndaabmelhaa
open Go.RowKit

theorem owns_lowG {w : World} {b b' size n : Nat} {e : TypeId} {v : Value} {xs : List Value} (h : w.ownsRow b e size v n xs) (hb : b' ≤ b) : w.ownsRow b' e size v n xs :=
  ⟨h.1, h.2.elim Or.inl (fun ⟨g, cap, cur, hv, hg, r⟩ => Or.inr ⟨g, cap, cur, hv, Nat.le_trans hb hg, r⟩)⟩
/-- The region of the unit cells within a distance. -/
def groL (l : List Q4) (k : Int) : List Q4 := canon (gL (l.map (grwQ k)))
set_option maxHeartbeats 4000000 in
theorem sizable_any (q : Option Addr) (n c : Nat) (l : List Q4) (k : Int) (w : World) (h : SlT enc4 4 w q n l) (hn : n ≤ 1048576) :
    Calls Try.prog 105 #[.slice q n c, .int .i64 k] w fun e w' => e = .returned (.bool (isReg l && wit k 0 10)) ∧ Ext w w' := by
  have hc1 := fun W (hW : Ext w W) => IsRegion_any q n c l W (h.ext hW) hn
  have hc2 := fun W => within_any k 0 10 W
  cases h1 : isReg l with
  | false =>
    rw [h1] at hc1
    replace hc1 := hid hc1
    clear h1 hc2
    go_enter Try.func105, Try.ntmps105
    go_wp2_with fail
    refine (hc1.out _ (Ext.refl _)).mono ?_
    rintro e w1 ⟨rfl, E1⟩
    go_wp2_with fail
    go_ret
    exact ⟨rfl, E1⟩
  | true =>
    rw [h1] at hc1
    replace hc1 := hid hc1
    replace hc2 := hid hc2
    clear h1
    go_enter Try.func105, Try.ntmps105
    go_wp2_with fail
    refine (hc1.out _ (Ext.refl _)).mono ?_
    rintro e w1 ⟨rfl, E1⟩
    go_wp2_with fail
    refine (hc2.out _).mono ?_
    rintro e w' ⟨rfl, rfl⟩
    go_wp2_with fail
    go_ret
    exact ⟨rfl, E1⟩
set_option maxHeartbeats 4000000 in
theorem grow_any (q : Option Addr) (n c : Nat) (l : List Q4) (k : Int) (w : World) (h : SlT enc4 4 w q n l) (hn : n ≤ 1048576) (hv : ∀ r ∈ l, vR r = true) (hk : 0 ≤ k ∧ k ≤ 100) :
    Calls Try.prog 106 #[.slice q n c, .int .i64 k] w (RegB (groL l k) w) := by
  have hg := hid (grown_any q n c l k w h hn hv hk.1 hk.2)
  clear hv
  go_enter Try.func106, Try.ntmps106
  go_wp2_with fail
  refine hg.out.mono ?_
  rintro e w1 ⟨B, rfl, _, b1, E1⟩
  have b1 := hid b1
  go_wp2_with fail
  refine (region_any B _ _ b1.out).mono ?_
  rintro e w2 ⟨q2, c2, rfl, o2, E2⟩
  have hO := hid o2
  clear o2
  go_wp2_with fail
  go_ret
  exact ⟨q2, c2, rfl, owns_lowG hO.out E1.le, E1.trans E2⟩
set_option maxHeartbeats 4000000 in
theorem Grow_any (q : Option Addr) (n c : Nat) (l : List Q4) (k : Int) (w : World) (h : SlT enc4 4 w q n l) (hn : n ≤ 1048576) (h1 : isReg l = true) (h2 : wit k 0 10 = true) :
    Calls Try.prog 56 #[.slice q n c, .int .i64 k] w (RegB (groL l k) w) := by
  have hs := sizable_any q n c l k w h hn
  rw [h1, h2] at hs
  have hvs := hid (vRs_parts (isReg_iff.1 h1).1).2
  have hk := hid (wit_iff.1 h2)
  replace hs := hid hs
  clear h1 h2
  go_enter Try.func56, Try.ntmps56
  go_wp2_with fail
  refine hs.out.mono ?_
  rintro e w1 ⟨rfl, E1⟩
  go_wp2_with fail
  refine (grow_any q n c l k _ (h.ext E1) hn hvs.out (by have := hk.out; omega)).mono ?_
  rintro e w2 ⟨q2, c2, rfl, o2, E2⟩
  have hO := hid o2
  clear o2
  go_wp2_with fail
  go_ret
  exact ⟨q2, c2, rfl, owns_lowG hO.out E1.le, E1.trans E2⟩
end Go.Proofs.Ytaigndaabmelhaa
