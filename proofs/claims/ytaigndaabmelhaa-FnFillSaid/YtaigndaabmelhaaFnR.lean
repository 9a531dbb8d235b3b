/- Contracts of slices.IndexFunc and slices.ContainsFunc at rectangles, for whatever predicate that only makes memory. Condition: at most 2^20 elements. -/
import Derived.Test.YtaigndaabmelhaaRg1
import Derived.Shelf.Abstract
namespace Go.Proofs.Ytaigndaabmelhaa
open Go.RowKit

/-- What is asked of a predicate on elements: at every element, in every world that has grown out of w, it answers p and only makes memory. -/
def PredR (g : Nat) (lb : Array Value) (p : Q4 → Bool) (l : List Q4) (w : World) : Prop := ∀ (W : World) (x : Q4), Ext w W → x ∈ l → Calls Try.prog g (#[.agg #[.int .i64 x.a, .int .i64 x.b, .int .i64 x.c, .int .i64 x.d]] ++ lb) W fun e w' => e = .returned (.bool (p x)) ∧ Ext W w'
set_option maxRecDepth 100000 in
set_option maxHeartbeats 400000 in
theorem indexFuncR_any (q : Option Addr) (n c : Nat) (l : List Q4) (p : Q4 → Bool) (g : Nat) (lb : Array Value) (eg : ∀ args w, (callFunc g args).run Try.prog w = .ok (.enter g args) w) (w : World)
    (h : SlT enc4 4 w q n l) (hp : PredR g lb p l w) (hn : n ≤ 1048576) :
    Calls Try.prog 131 #[.slice q n c, .func (.func g) #[] lb] w fun e w' => e = .returned (.int .i64 (idx p l)) ∧ Ext w w' := by
  have hl := hid h.length
  go_enter Try.func131, Try.ntmps131
  go_wp2
  go_loopw [5, 8] (fun _ i wr => ∃ k : Nat, k ≤ n ∧ i = .int .i64 k ∧ Ext w wr ∧ Hid ((l.take k).any p = false)) (fun _ i _ => n - (intOf i).toNat)
  case atStart => exact ⟨0, by omega, rfl, Ext.refl _, rfl⟩
  case round =>
    obtain ⟨k, hk, rfl, hE, hA⟩ := hrel
    by_cases hlt : k < n
    · obtain ⟨b, off, x, rfl, hb, hx, c0, c1, c2, c3⟩ := (h.ext hE).four hlt
      have hcall := hp wr x hE (List.mem_of_getElem? hx.out)
      cases hq : p x with
      | true =>
        rw [hq] at hcall
        have hr : Hid (idx p l = k) := idx_hit hA.out hx.out hq
        clear hq
        go_wp2_with (go_at_fn g; refine hcall.mono ?_; rintro e w' ⟨rfl, hb'⟩)
        go_ret
        exact ⟨ret_int hr.out.symm, hE.trans hb'⟩
      | false =>
        rw [hq] at hcall
        have hr : Hid ((l.take (k + 1)).any p = false) := any_take_snoc hA.out hx.out hq
        clear hq
        go_wp2_with (go_at_fn g; refine hcall.mono ?_; rintro e w' ⟨rfl, hb'⟩)
        go_roundw
        case rel => exact ⟨k + 1, by omega, by go_num, hE.trans hb', hr⟩
        case measure => simp [intOf]; omega
    · have hr : Hid (idx p l = -1) := by
        have := hA.out
        rw [take_all hl.out (by omega)] at this
        exact idx_miss this
      go_wp2_with fail
      go_ret
      exact ⟨ret_int hr.out.symm, hE⟩
set_option maxHeartbeats 400000 in
theorem containsFuncR_any (q : Option Addr) (n c : Nat) (l : List Q4) (p : Q4 → Bool) (g : Nat) (lb : Array Value) (eg : ∀ args w, (callFunc g args).run Try.prog w = .ok (.enter g args) w) (w : World)
    (h : SlT enc4 4 w q n l) (hp : PredR g lb p l w) (hn : n ≤ 1048576) :
    Calls Try.prog 102 #[.slice q n c, .func (.func g) #[] lb] w fun e w' => e = .returned (.bool (l.any p)) ∧ Ext w w' := by
  have hr := hid (idx_any p l)
  go_enter Try.func102, Try.ntmps102
  go_wp2_with (go_at_call 131; refine (indexFuncR_any q n c l p g lb eg _ h hp hn).mono ?_; rintro e w' ⟨rfl, hE⟩)
  go_ret
  exact ⟨ret_bool hr.out, hE⟩
end Go.Proofs.Ytaigndaabmelhaa
