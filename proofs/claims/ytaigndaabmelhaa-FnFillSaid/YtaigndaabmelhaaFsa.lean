/- Contract of FillSquares (program), all branches. Condition: at most 2^20 rectangles. -/
import Derived.Test.YtaigndaabmelhaaFsq
namespace Go.Proofs.Ytaigndaabmelhaa
open Go.RowKit

set_option maxRecDepth 100000 in
set_option maxHeartbeats 8000000 in
theorem FillSquares_any (q : Option Addr) (n c : Nat) (l : List Q4) (s p sz gap : Int) (w : World) (h : SlT enc4 4 w q n l) (hn : n ≤ 1048576) :
    Calls Try.prog 53 #[.slice q n c, .int .i64 s, .int .i64 p, .int .i64 sz, .int .i64 gap] w (FsB l s p sz gap w) := by
  have hc1 := fun W (hW : Ext w W) => IsRegion_any q n c l W (h.ext hW) hn
  have k2 := fun W => within_any s 4 40 W
  have k3 := fun W => within_any p 1 100 W
  have k4 := fun W => within_any sz 1 8 W
  have k5 := fun W => within_any gap 0 8 W
  cases h1 : isReg l with
  | false =>
    have hr : Hid (fsC l s p sz gap = 1) := by show _ = _; rw [fsC, h1]; rfl
    rw [h1] at hc1
    clear h1
    go_enter Try.func53, Try.ntmps53
    go_wp2_with fail
    refine (hc1 _ (Ext.refl _)).mono ?_
    rintro e w1 ⟨rfl, E1⟩
    go_wp2_with fail
    go_ret2
    exact fs_none hr.out (by omega) E1
  | true =>
    rw [h1] at hc1
    cases h2 : wit s 4 40 with
    | false =>
      have hr : Hid (fsC l s p sz gap = 2) := by show _ = _; rw [fsC, h1, h2]; rfl
      rw [h2] at k2
      go_enter Try.func53, Try.ntmps53
      go_wp2_with fail
      refine (hc1 _ (Ext.refl _)).mono ?_
      rintro e w1 ⟨rfl, E1⟩
      go_wp2_with fail
      refine (k2 _).mono ?_
      rintro e w' ⟨rfl, rfl⟩
      go_wp2_with fail
      go_ret2
      exact fs_none hr.out (by omega) E1
    | true =>
      rw [h2] at k2
      cases h3 : wit p 1 100 with
      | false =>
        have hr : Hid (fsC l s p sz gap = 2) := by show _ = _; rw [fsC, h1, h2, h3]; rfl
        rw [h3] at k3
        go_enter Try.func53, Try.ntmps53
        go_wp2_with fail
        refine (hc1 _ (Ext.refl _)).mono ?_
        rintro e w1 ⟨rfl, E1⟩
        go_wp2_with fail
        refine (k2 _).mono ?_
        rintro e w' ⟨rfl, rfl⟩
        go_wp2_with fail
        refine (k3 _).mono ?_
        rintro e w' ⟨rfl, rfl⟩
        go_wp2_with fail
        go_ret2
        exact fs_none hr.out (by omega) E1
      | true =>
        rw [h3] at k3
        cases h4 : wit sz 1 8 with
        | false =>
          have hr : Hid (fsC l s p sz gap = 2) := by show _ = _; rw [fsC, h1, h2, h3, h4]; rfl
          rw [h4] at k4
          go_enter Try.func53, Try.ntmps53
          go_wp2_with fail
          refine (hc1 _ (Ext.refl _)).mono ?_
          rintro e w1 ⟨rfl, E1⟩
          go_wp2_with fail
          refine (k2 _).mono ?_
          rintro e w' ⟨rfl, rfl⟩
          go_wp2_with fail
          refine (k3 _).mono ?_
          rintro e w' ⟨rfl, rfl⟩
          go_wp2_with fail
          refine (k4 _).mono ?_
          rintro e w' ⟨rfl, rfl⟩
          go_wp2_with fail
          go_ret2
          exact fs_none hr.out (by omega) E1
        | true =>
          rw [h4] at k4
          cases h5 : wit gap 0 8 with
          | false =>
            have hr : Hid (fsC l s p sz gap = 2) := by show _ = _; rw [fsC, h1, h2, h3, h4, h5]; rfl
            rw [h5] at k5
            go_enter Try.func53, Try.ntmps53
            go_wp2_with fail
            refine (hc1 _ (Ext.refl _)).mono ?_
            rintro e w1 ⟨rfl, E1⟩
            go_wp2_with fail
            refine (k2 _).mono ?_
            rintro e w' ⟨rfl, rfl⟩
            go_wp2_with fail
            refine (k3 _).mono ?_
            rintro e w' ⟨rfl, rfl⟩
            go_wp2_with fail
            refine (k4 _).mono ?_
            rintro e w' ⟨rfl, rfl⟩
            go_wp2_with fail
            refine (k5 _).mono ?_
            rintro e w' ⟨rfl, rfl⟩
            go_wp2_with fail
            go_ret2
            exact fs_none hr.out (by omega) E1
          | true =>
            rw [h5] at k5
            exact fill_ok q n c l s p sz gap w h hn h1 h2 h3 h4 h5
theorem fsL_len (l : List Q4) (s p sz gap : Int) : (fsL l s p sz gap).length ≤ 3200 := by
  rw [fsL]; split
  · exact canon_len _
  · simp
end Go.Proofs.Ytaigndaabmelhaa
