/- The law FnExactIsBlockList's walk: it returns true at every slice. No condition. -/
import Derived.Test.YtkkhdjacclgcaaaBl2
import Derived.Test.YtkkhdjacclgcaaaOpn
namespace Go.Proofs.Ytkkhdjacclgcaaa
open Go.RowKit

theorem enc4_len (x : Q4) : (enc4 x).length = 4 := rfl
theorem enc3_len (x : Q3) : (enc3 x).length = 3 := rfl
theorem enc2_len (x : Q2) : (enc2 x).length = 2 := rfl
theorem enc1_len (x : Int) : (enc1 x).length = 1 := rfl

set_option maxHeartbeats 400000 in
theorem exactIsBlockList_any (p : Option Addr) (n c : Nat) (l : List Q4) (w : World) (h : SlT enc4 4 w p n l) (hm : n ≤ maxLen) :
    Calls Try.prog 4 #[.slice p n c] w fun e w' => e = .returned (.bool true) ∧ Ext w w' := by
  have hl := hid h.length
  by_cases hn : n ≤ 1048576
  · go_enter Try.func4, Try.ntmps4
    go_wp2_with fail
    refine (szBlockS_any _ _ _ _ _ (by omega) (by omega) (by omega)).mono ?_
    rintro e w1 ⟨rfl, rfl⟩
    rw [if_neg (by omega)]
    go_wp2_with fail
    refine (toBlockS_any _ _ _ l _ h hn).mono ?_
    rintro e w2 ⟨q2, rfl, o2, h2⟩
    have s2 := SlT.of_owns enc4_len hl.out o2
    clear o2
    go_wp2_with fail
    refine (specIsBlockList_any _ _ _ l _ s2 hn).mono ?_
    rintro e w3 ⟨rfl, h3⟩
    have E3 := h2.trans h3
    go_wp2_with fail
    refine (toBlockS_any _ _ _ l _ (h.ext E3) hn).mono ?_
    rintro e w4 ⟨q4, rfl, o4, h4⟩
    have s4 := SlT.of_owns enc4_len hl.out o4
    have E4 := E3.trans h4
    clear o4
    go_wp2_with fail
    refine (IsBlockList_any _ _ _ l _ s4 hn).mono ?_
    rintro e w5 ⟨rfl, h5⟩
    have E5 := E4.trans h5
    go_wp2_with fail
    refine (toBlockS_any _ _ _ l _ (h.ext E5) hn).mono ?_
    rintro e w6 ⟨q6, rfl, o6, h6⟩
    have s6 := SlT.of_owns enc4_len hl.out o6
    have E6 := E5.trans h6
    clear o6
    go_wp2_with fail
    refine (eqBlockS_same _ _ _ _ _ l _ (s4.ext (h5.trans h6)) s6 hn).mono ?_
    rintro e w7 ⟨rfl, h7⟩
    go_wp2_with fail
    go_ret
    exact ⟨rfl, E6.trans h7⟩
  · go_enter Try.func4, Try.ntmps4
    go_wp2_with fail
    refine (szBlockS_any _ _ _ _ _ (by omega) (by omega) (by unfold maxLen at hm; omega)).mono ?_
    rintro e w1 ⟨rfl, rfl⟩
    rw [if_pos (by omega)]
    go_wp2_with fail
    go_ret
    exact ⟨rfl, Ext.refl _⟩
end Go.Proofs.Ytkkhdjacclgcaaa
