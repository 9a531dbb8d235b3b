/- Contracts of slices.IndexFunc and slices.ContainsFunc at int64 and at structs of int64s, for whatever predicate that only makes memory; the validity tests on blocks, positions. Condition: at most 2^20 elements. -/
import Derived.Test.YtiljojpnbpdaeaaArr
import Derived.Shelf.Abstract
namespace Go.Proofs.Ytiljojpnbpdaeaa
open Go.RowKit

/-- What is asked of a predicate on elements: at every element, in every world that has grown out of w, it answers p and only makes memory. -/
def PredI (g : Nat) (lb : Array Value) (p : Int → Bool) (w : World) : Prop := ∀ (W : World) (x : Int), Ext w W → Calls Try.prog g (#[.int .i64 x] ++ lb) W fun e w' => e = .returned (.bool (p x)) ∧ Ext W w'
set_option maxRecDepth 100000 in
set_option maxHeartbeats 400000 in
theorem indexFuncI_any (q : Option Addr) (n c : Nat) (l : List Int) (p : Int → Bool) (g : Nat) (lb : Array Value) (eg : ∀ args w, (callFunc g args).run Try.prog w = .ok (.enter g args) w) (w : World)
    (h : SlT enc1 1 w q n l) (hp : PredI g lb p w) (hn : n ≤ 1048576) :
    Calls Try.prog 112 #[.slice q n c, .func (.func g) #[] lb] w fun e w' => e = .returned (.int .i64 (idx p l)) ∧ Ext w w' := by
  have hl := hid h.length
  go_enter Try.func112, Try.ntmps112
  go_wp2
  go_loopw [5, 8] (fun _ i wr => ∃ k : Nat, k ≤ n ∧ i = .int .i64 k ∧ Ext w wr ∧ Hid ((l.take k).any p = false)) (fun _ i _ => n - (intOf i).toNat)
  case atStart => exact ⟨0, by omega, rfl, Ext.refl _, rfl⟩
  case round =>
    obtain ⟨k, hk, rfl, hE, hA⟩ := hrel
    by_cases hlt : k < n
    · obtain ⟨b, off, x, rfl, hb, hx, c0⟩ := (h.ext hE).int hlt
      have hcall := hp wr x hE
      cases hq : p x with
      | true =>
        rw [hq] at hcall
        have hr : Hid (idx p l = k) := idx_hit hA.out hx.out hq
        clear hq
        go_wp2_with (go_at_fn g; refine hcall.mono ?_; rintro e w' ⟨rfl, hb'⟩)
        go_ret
        exact ⟨ret_int hr.out.symm, hE.trans hb'⟩
      | false =>
        rw [hq] at hcall
        have hr : Hid ((l.take (k + 1)).any p = false) := any_take_snoc hA.out hx.out hq
        clear hq
        go_wp2_with (go_at_fn g; refine hcall.mono ?_; rintro e w' ⟨rfl, hb'⟩)
        go_roundw
        case rel => exact ⟨k + 1, by omega, by go_num, hE.trans hb', hr⟩
        case measure => simp [intOf]; omega
    · have hr : Hid (idx p l = -1) := by
        have := hA.out
        rw [take_all hl.out (by omega)] at this
        exact idx_miss this
      go_wp2_with fail
      go_ret
      exact ⟨ret_int hr.out.symm, hE⟩
set_option maxHeartbeats 400000 in
theorem containsFuncI_any (q : Option Addr) (n c : Nat) (l : List Int) (p : Int → Bool) (g : Nat) (lb : Array Value) (eg : ∀ args w, (callFunc g args).run Try.prog w = .ok (.enter g args) w) (w : World)
    (h : SlT enc1 1 w q n l) (hp : PredI g lb p w) (hn : n ≤ 1048576) :
    Calls Try.prog 73 #[.slice q n c, .func (.func g) #[] lb] w fun e w' => e = .returned (.bool (l.any p)) ∧ Ext w w' := by
  have hr := hid (idx_any p l)
  go_enter Try.func73, Try.ntmps73
  go_wp2_with (go_at_call 112; refine (indexFuncI_any q n c l p g lb eg _ h hp hn).mono ?_; rintro e w' ⟨rfl, hE⟩)
  go_ret
  exact ⟨ret_bool hr.out, hE⟩
/-- What is asked of a predicate on elements: at every element, in every world that has grown out of w, it answers p and only makes memory. -/
def PredB (g : Nat) (lb : Array Value) (p : Q4 → Bool) (w : World) : Prop := ∀ (W : World) (x : Q4), Ext w W → Calls Try.prog g (#[.agg #[.int .i64 x.a, .int .i64 x.b, .int .i64 x.c, .int .i64 x.d]] ++ lb) W fun e w' => e = .returned (.bool (p x)) ∧ Ext W w'
/-- What is asked of a predicate on elements: at every element, in every world that has grown out of w, it answers p and only makes memory. -/
def PredC (g : Nat) (lb : Array Value) (p : Q3 → Bool) (w : World) : Prop := ∀ (W : World) (x : Q3), Ext w W → Calls Try.prog g (#[.agg #[.int .i64 x.a, .int .i64 x.b, .int .i64 x.c]] ++ lb) W fun e w' => e = .returned (.bool (p x)) ∧ Ext W w'
/-- What is asked of a predicate on elements: at every element, in every world that has grown out of w, it answers p and only makes memory. -/
def PredN (g : Nat) (lb : Array Value) (p : Q3 → Bool) (w : World) : Prop := ∀ (W : World) (x : Q3), Ext w W → Calls Try.prog g (#[.agg #[.int .i64 x.a, .int .i64 x.b, .int .i64 x.c]] ++ lb) W fun e w' => e = .returned (.bool (p x)) ∧ Ext W w'
set_option maxRecDepth 100000 in
set_option maxHeartbeats 400000 in
theorem indexFuncN_any (q : Option Addr) (n c : Nat) (l : List Q3) (p : Q3 → Bool) (g : Nat) (lb : Array Value) (eg : ∀ args w, (callFunc g args).run Try.prog w = .ok (.enter g args) w) (w : World)
    (h : SlT enc3 3 w q n l) (hp : PredN g lb p w) (hn : n ≤ 1048576) :
    Calls Try.prog 38 #[.slice q n c, .func (.func g) #[] lb] w fun e w' => e = .returned (.int .i64 (idx p l)) ∧ Ext w w' := by
  have hl := hid h.length
  go_enter Try.func38, Try.ntmps38
  go_wp2
  go_loopw [5, 8] (fun _ i wr => ∃ k : Nat, k ≤ n ∧ i = .int .i64 k ∧ Ext w wr ∧ Hid ((l.take k).any p = false)) (fun _ i _ => n - (intOf i).toNat)
  case atStart => exact ⟨0, by omega, rfl, Ext.refl _, rfl⟩
  case round =>
    obtain ⟨k, hk, rfl, hE, hA⟩ := hrel
    by_cases hlt : k < n
    · obtain ⟨b, off, x, rfl, hb, hx, c0, c1, c2⟩ := (h.ext hE).three hlt
      have hcall := hp wr x hE
      cases hq : p x with
      | true =>
        rw [hq] at hcall
        have hr : Hid (idx p l = k) := idx_hit hA.out hx.out hq
        clear hq
        go_wp2_with (go_at_fn g; refine hcall.mono ?_; rintro e w' ⟨rfl, hb'⟩)
        go_ret
        exact ⟨ret_int hr.out.symm, hE.trans hb'⟩
      | false =>
        rw [hq] at hcall
        have hr : Hid ((l.take (k + 1)).any p = false) := any_take_snoc hA.out hx.out hq
        clear hq
        go_wp2_with (go_at_fn g; refine hcall.mono ?_; rintro e w' ⟨rfl, hb'⟩)
        go_roundw
        case rel => exact ⟨k + 1, by omega, by go_num, hE.trans hb', hr⟩
        case measure => simp [intOf]; omega
    · have hr : Hid (idx p l = -1) := by
        have := hA.out
        rw [take_all hl.out (by omega)] at this
        exact idx_miss this
      go_wp2_with fail
      go_ret
      exact ⟨ret_int hr.out.symm, hE⟩
end Go.Proofs.Ytiljojpnbpdaeaa
