/- Contracts of IsBlockList (program and reference). Condition: at most 2^20 elements. -/
import Derived.Test.YtnhiepgfgnemkaaFun
namespace Go.Proofs.Ytnhiepgfgnemkaa
open Go.RowKit

def isBL (l : List Q4) : Bool := decide (l.length ≤ 12) && l.all vblk

theorem isBL1_pred (w : World) : PredB 107 #[] (fun x => !vblk x) w := by
  intro W x _
  show Calls Try.prog 107 #[.agg #[.int .i64 x.a, .int .i64 x.b, .int .i64 x.c, .int .i64 x.d]] W _
  go_enter Try.func107, Try.ntmps107
  go_wp2_with (go_at_call 108; refine (validBlock_any _ _).mono ?_; rintro e w' ⟨rfl, hE⟩)
  go_ret
  exact ⟨rfl, ((Ext.refl _).alloc _).trans hE⟩

set_option maxHeartbeats 400000 in
theorem IsBlockList_any (q : Option Addr) (n c : Nat) (l : List Q4) (w : World) (h : SlT enc4 4 w q n l) (hn : n ≤ 1048576) :
    Calls Try.prog 74 #[.slice q n c] w fun e w' => e = .returned (.bool (isBL l)) ∧ Ext w w' := by
  have hl := hid h.length
  by_cases h12 : n ≤ 12
  · have hr : Hid ((!l.any fun x => !vblk x) = isBL l) := by show _ = _; rw [all_not_any, isBL, hl.out]; simp [h12]
    go_enter Try.func74, Try.ntmps74
    go_wp2_with (go_at_call 106; refine (containsFuncB_any q n c l (fun x => !vblk x) 107 #[] (enters_of Try.func107 (by kernel_rfl) rfl) _ h (isBL1_pred _) hn).mono ?_; generalize (l.any fun x => !vblk x) = r at hr ⊢; rintro e w' ⟨rfl, hE⟩)
    go_ret
    exact ⟨ret_bool hr.out, hE⟩
  · have hr : Hid (false = isBL l) := by show _ = _; rw [isBL, hl.out]; simp [h12]
    go_enter Try.func74, Try.ntmps74
    go_wp2
    go_ret
    exact ⟨ret_bool hr.out, Ext.refl _⟩

set_option maxRecDepth 100000 in
set_option maxHeartbeats 400000 in
theorem specIsBlockList_any (q : Option Addr) (n c : Nat) (l : List Q4) (w : World) (h : SlT enc4 4 w q n l) (hn : n ≤ 1048576) :
    Calls Try.prog 94 #[.slice q n c] w fun e w' => e = .returned (.bool (isBL l)) ∧ Ext w w' := by
  have hl := hid h.length
  go_enter Try.func94, Try.ntmps94
  go_wp2
  go_loopw [3] (fun i wr => ∃ k : Nat, k ≤ n ∧ i = .int .i64 k ∧ Ext w wr ∧ Hid ((l.take k).any (fun x => !vblk x) = false)) (fun i _ => n - (intOf i).toNat)
  case atStart => exact ⟨0, by omega, rfl, Ext.refl _, rfl⟩
  case round =>
    obtain ⟨k, hk, rfl, hE, hA⟩ := hrel
    by_cases hlt : k < n
    · obtain ⟨b, off, x, rfl, hb, hx, c0, c1, c2, c3⟩ := (h.ext hE).four hlt
      cases hq : vblk x with
      | true =>
        have hr : Hid ((l.take (k + 1)).any (fun x => !vblk x) = false) := any_take_snoc hA.out hx.out (by simp [hq])
        go_wp2_with (go_at_call 115; refine (l31Block_any _ _).mono ?_; rintro e w' ⟨rfl, hb'⟩)
        go_roundw
        case rel => exact ⟨k + 1, by omega, by go_num, hE.trans hb', hr⟩
        case measure => simp [intOf]; omega
      | false =>
        have hr : Hid (false = isBL l) := by
          have hm : x ∈ l := List.mem_of_getElem? hx.out
          have : l.all vblk = false := by rw [List.all_eq_false]; exact ⟨x, hm, by simp [hq]⟩
          show _ = _
          rw [isBL, this, Bool.and_false]
        go_wp2_with (go_at_call 115; refine (l31Block_any _ _).mono ?_; rintro e w' ⟨rfl, hb'⟩)
        go_ret
        exact ⟨ret_bool hr.out, hE.trans hb'⟩
    · have hr : Hid (decide (n ≤ 12) = isBL l) := by
        have hA := hA.out
        rw [take_all hl.out (by omega)] at hA
        show _ = _
        rw [isBL, hl.out, ← all_not_any, hA]
        simp
      go_wp2_with fail
      go_ret
      exact ⟨ret_bool (by rw [← hr.out]; simp; omega), hE⟩
end Go.Proofs.Ytnhiepgfgnemkaa
