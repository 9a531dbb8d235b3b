/- Contracts of slices.IndexFunc and slices.ContainsFunc at what sessions hold, for whatever predicate that only makes memory. Condition: at most 2^20 elements. -/
import Derived.Test.YtncmhefendhinaaGreatDoorDtp
import Derived.Shelf.Abstract
namespace Go.Proofs.YtncmhefendhinaaGreatDoor
open Go.RowKit

set_option maxRecDepth 100000 in
set_option maxHeartbeats 4000000 in
theorem indexFuncShapeD (q : Option Addr) (n c base : Nat) (l : List ShD) (p : ShD → Bool) (g : Nat) (lb : Array Value) (eg : ∀ args w, (callFunc g args).run Tryz.prog w = .ok (.enter g args) w) (w : World)
    (h : SlD (Fl encSh) 5 base w q n l) (hp : ∀ (W : World) (x : ShD) (cs : List Value), Ext w W → x ∈ l → (Fl encSh) base W x cs → Calls Tryz.prog g (#[.agg cs.toArray] ++ lb) W fun e w2 => e = .returned (.bool (p x)) ∧ Ext W w2) (hn : n ≤ 1048576) :
    Calls Tryz.prog 83 #[.slice q n c, .func (.func g) #[] lb] w fun e w' => e = .returned (.int .i64 (idx p l)) ∧ Ext w w' := by
  have hl := hid h.length
  go_enter Tryz.func83, Tryz.ntmps83
  go_wp2
  go_loopw [5, 8] (fun _ i wr => ∃ k : Nat, k ≤ n ∧ i = .int .i64 k ∧ Ext w wr ∧ Hid ((l.take k).any p = false)) (fun _ i _ => n - (intOf i).toNat)
  case atStart => exact ⟨0, by omega, rfl, Ext.refl _, rfl⟩
  case round =>
    obtain ⟨k, hk, rfl, hE, hA⟩ := hrel
    by_cases hlt : k < n
    · obtain ⟨b, off, x, cs, rfl, hb, hx, hcs, hc⟩ := (h.ext okShape hE).get hlt
      have hrr := hid (show wr.rangeAt b (off + k * 5) cs from hc)
      have hsz := hid (show (Tryz.prog.info? 29).map (·.size) = some cs.length from by rw [okShape.len hcs]; kernel_rfl)
      clear hc
      have hcall := hid (hp wr x cs hE (List.mem_of_getElem? hx.out) hcs)
      cases hq : p x with
      | true =>
        rw [hq] at hcall
        have hr : Hid (idx p l = k) := idx_hit hA.out hx.out hq
        clear hq
        go_wp2_with (first | (go_at_fn g; refine hcall.out.mono ?_; rintro e w2 ⟨rfl, hb2⟩) | (refine wpList_load_mid rfl 29 (Operand.tmp 14) rfl b (off + k * 5) rfl cs _ hrr.out Tryz.underlying29 rfl hsz.out ?_))
        go_ret
        exact ⟨ret_int hr.out.symm, hE.trans hb2⟩
      | false =>
        rw [hq] at hcall
        have hr : Hid ((l.take (k + 1)).any p = false) := any_take_snoc hA.out hx.out hq
        clear hq
        go_wp2_with (first | (go_at_fn g; refine hcall.out.mono ?_; rintro e w2 ⟨rfl, hb2⟩) | (refine wpList_load_mid rfl 29 (Operand.tmp 14) rfl b (off + k * 5) rfl cs _ hrr.out Tryz.underlying29 rfl hsz.out ?_))
        go_roundw
        case rel => exact ⟨k + 1, by omega, by go_num, hE.trans hb2, hr⟩
        case measure => simp [intOf]; omega
    · have hr : Hid (idx p l = -1) := by
        have := hA.out
        rw [take_all hl.out (by omega)] at this
        exact idx_miss this
      go_wp2_with fail
      go_ret
      exact ⟨ret_int hr.out.symm, hE⟩
set_option maxRecDepth 100000 in
set_option maxHeartbeats 4000000 in
theorem containsFuncShapeD (q : Option Addr) (n c base : Nat) (l : List ShD) (p : ShD → Bool) (g : Nat) (lb : Array Value) (eg : ∀ args w, (callFunc g args).run Tryz.prog w = .ok (.enter g args) w) (w : World)
    (h : SlD (Fl encSh) 5 base w q n l) (hp : ∀ (W : World) (x : ShD) (cs : List Value), Ext w W → x ∈ l → (Fl encSh) base W x cs → Calls Tryz.prog g (#[.agg cs.toArray] ++ lb) W fun e w2 => e = .returned (.bool (p x)) ∧ Ext W w2) (hn : n ≤ 1048576) :
    Calls Tryz.prog 55 #[.slice q n c, .func (.func g) #[] lb] w fun e w' => e = .returned (.bool (l.any p)) ∧ Ext w w' := by
  have hr := hid (idx_any p l)
  go_enter Tryz.func55, Tryz.ntmps55
  go_wp2_with (go_at_call 83; refine (indexFuncShapeD q n c base l p g lb eg _ h hp hn).mono ?_; rintro e w' ⟨rfl, hE⟩)
  go_ret
  exact ⟨ret_bool hr.out, hE⟩
set_option maxRecDepth 100000 in
set_option maxHeartbeats 4000000 in
theorem indexFuncLabelD (q : Option Addr) (n c base : Nat) (l : List LbD) (p : LbD → Bool) (g : Nat) (lb : Array Value) (eg : ∀ args w, (callFunc g args).run Tryz.prog w = .ok (.enter g args) w) (w : World)
    (h : SlD (Fl encLb) 4 base w q n l) (hp : ∀ (W : World) (x : LbD) (cs : List Value), Ext w W → x ∈ l → (Fl encLb) base W x cs → Calls Tryz.prog g (#[.agg cs.toArray] ++ lb) W fun e w2 => e = .returned (.bool (p x)) ∧ Ext W w2) (hn : n ≤ 1048576) :
    Calls Tryz.prog 85 #[.slice q n c, .func (.func g) #[] lb] w fun e w' => e = .returned (.int .i64 (idx p l)) ∧ Ext w w' := by
  have hl := hid h.length
  go_enter Tryz.func85, Tryz.ntmps85
  go_wp2
  go_loopw [5, 8] (fun _ i wr => ∃ k : Nat, k ≤ n ∧ i = .int .i64 k ∧ Ext w wr ∧ Hid ((l.take k).any p = false)) (fun _ i _ => n - (intOf i).toNat)
  case atStart => exact ⟨0, by omega, rfl, Ext.refl _, rfl⟩
  case round =>
    obtain ⟨k, hk, rfl, hE, hA⟩ := hrel
    by_cases hlt : k < n
    · obtain ⟨b, off, x, cs, rfl, hb, hx, hcs, hc⟩ := (h.ext okLabel hE).get hlt
      have hrr := hid (show wr.rangeAt b (off + k * 4) cs from hc)
      have hsz := hid (show (Tryz.prog.info? 33).map (·.size) = some cs.length from by rw [okLabel.len hcs]; kernel_rfl)
      clear hc
      have hcall := hid (hp wr x cs hE (List.mem_of_getElem? hx.out) hcs)
      cases hq : p x with
      | true =>
        rw [hq] at hcall
        have hr : Hid (idx p l = k) := idx_hit hA.out hx.out hq
        clear hq
        go_wp2_with (first | (go_at_fn g; refine hcall.out.mono ?_; rintro e w2 ⟨rfl, hb2⟩) | (refine wpList_load_mid rfl 33 (Operand.tmp 14) rfl b (off + k * 4) rfl cs _ hrr.out Tryz.underlying33 rfl hsz.out ?_))
        go_ret
        exact ⟨ret_int hr.out.symm, hE.trans hb2⟩
      | false =>
        rw [hq] at hcall
        have hr : Hid ((l.take (k + 1)).any p = false) := any_take_snoc hA.out hx.out hq
        clear hq
        go_wp2_with (first | (go_at_fn g; refine hcall.out.mono ?_; rintro e w2 ⟨rfl, hb2⟩) | (refine wpList_load_mid rfl 33 (Operand.tmp 14) rfl b (off + k * 4) rfl cs _ hrr.out Tryz.underlying33 rfl hsz.out ?_))
        go_roundw
        case rel => exact ⟨k + 1, by omega, by go_num, hE.trans hb2, hr⟩
        case measure => simp [intOf]; omega
    · have hr : Hid (idx p l = -1) := by
        have := hA.out
        rw [take_all hl.out (by omega)] at this
        exact idx_miss this
      go_wp2_with fail
      go_ret
      exact ⟨ret_int hr.out.symm, hE⟩
set_option maxRecDepth 100000 in
set_option maxHeartbeats 4000000 in
theorem containsFuncLabelD (q : Option Addr) (n c base : Nat) (l : List LbD) (p : LbD → Bool) (g : Nat) (lb : Array Value) (eg : ∀ args w, (callFunc g args).run Tryz.prog w = .ok (.enter g args) w) (w : World)
    (h : SlD (Fl encLb) 4 base w q n l) (hp : ∀ (W : World) (x : LbD) (cs : List Value), Ext w W → x ∈ l → (Fl encLb) base W x cs → Calls Tryz.prog g (#[.agg cs.toArray] ++ lb) W fun e w2 => e = .returned (.bool (p x)) ∧ Ext W w2) (hn : n ≤ 1048576) :
    Calls Tryz.prog 58 #[.slice q n c, .func (.func g) #[] lb] w fun e w' => e = .returned (.bool (l.any p)) ∧ Ext w w' := by
  have hr := hid (idx_any p l)
  go_enter Tryz.func58, Tryz.ntmps58
  go_wp2_with (go_at_call 85; refine (indexFuncLabelD q n c base l p g lb eg _ h hp hn).mono ?_; rintro e w' ⟨rfl, hE⟩)
  go_ret
  exact ⟨ret_bool hr.out, hE⟩
set_option maxRecDepth 100000 in
set_option maxHeartbeats 4000000 in
theorem indexFuncInstanceD (q : Option Addr) (n c base : Nat) (l : List InD) (p : InD → Bool) (g : Nat) (lb : Array Value) (eg : ∀ args w, (callFunc g args).run Tryz.prog w = .ok (.enter g args) w) (w : World)
    (h : SlD (Fl encIn) 8 base w q n l) (hp : ∀ (W : World) (x : InD) (cs : List Value), Ext w W → x ∈ l → (Fl encIn) base W x cs → Calls Tryz.prog g (#[.agg cs.toArray] ++ lb) W fun e w2 => e = .returned (.bool (p x)) ∧ Ext W w2) (hn : n ≤ 1048576) :
    Calls Tryz.prog 87 #[.slice q n c, .func (.func g) #[] lb] w fun e w' => e = .returned (.int .i64 (idx p l)) ∧ Ext w w' := by
  have hl := hid h.length
  go_enter Tryz.func87, Tryz.ntmps87
  go_wp2
  go_loopw [5, 8] (fun _ i wr => ∃ k : Nat, k ≤ n ∧ i = .int .i64 k ∧ Ext w wr ∧ Hid ((l.take k).any p = false)) (fun _ i _ => n - (intOf i).toNat)
  case atStart => exact ⟨0, by omega, rfl, Ext.refl _, rfl⟩
  case round =>
    obtain ⟨k, hk, rfl, hE, hA⟩ := hrel
    by_cases hlt : k < n
    · obtain ⟨b, off, x, cs, rfl, hb, hx, hcs, hc⟩ := (h.ext okInstance hE).get hlt
      have hrr := hid (show wr.rangeAt b (off + k * 8) cs from hc)
      have hsz := hid (show (Tryz.prog.info? 37).map (·.size) = some cs.length from by rw [okInstance.len hcs]; kernel_rfl)
      clear hc
      have hcall := hid (hp wr x cs hE (List.mem_of_getElem? hx.out) hcs)
      cases hq : p x with
      | true =>
        rw [hq] at hcall
        have hr : Hid (idx p l = k) := idx_hit hA.out hx.out hq
        clear hq
        go_wp2_with (first | (go_at_fn g; refine hcall.out.mono ?_; rintro e w2 ⟨rfl, hb2⟩) | (refine wpList_load_mid rfl 37 (Operand.tmp 14) rfl b (off + k * 8) rfl cs _ hrr.out Tryz.underlying37 rfl hsz.out ?_))
        go_ret
        exact ⟨ret_int hr.out.symm, hE.trans hb2⟩
      | false =>
        rw [hq] at hcall
        have hr : Hid ((l.take (k + 1)).any p = false) := any_take_snoc hA.out hx.out hq
        clear hq
        go_wp2_with (first | (go_at_fn g; refine hcall.out.mono ?_; rintro e w2 ⟨rfl, hb2⟩) | (refine wpList_load_mid rfl 37 (Operand.tmp 14) rfl b (off + k * 8) rfl cs _ hrr.out Tryz.underlying37 rfl hsz.out ?_))
        go_roundw
        case rel => exact ⟨k + 1, by omega, by go_num, hE.trans hb2, hr⟩
        case measure => simp [intOf]; omega
    · have hr : Hid (idx p l = -1) := by
        have := hA.out
        rw [take_all hl.out (by omega)] at this
        exact idx_miss this
      go_wp2_with fail
      go_ret
      exact ⟨ret_int hr.out.symm, hE⟩
set_option maxRecDepth 100000 in
set_option maxHeartbeats 4000000 in
theorem containsFuncInstanceD (q : Option Addr) (n c base : Nat) (l : List InD) (p : InD → Bool) (g : Nat) (lb : Array Value) (eg : ∀ args w, (callFunc g args).run Tryz.prog w = .ok (.enter g args) w) (w : World)
    (h : SlD (Fl encIn) 8 base w q n l) (hp : ∀ (W : World) (x : InD) (cs : List Value), Ext w W → x ∈ l → (Fl encIn) base W x cs → Calls Tryz.prog g (#[.agg cs.toArray] ++ lb) W fun e w2 => e = .returned (.bool (p x)) ∧ Ext W w2) (hn : n ≤ 1048576) :
    Calls Tryz.prog 61 #[.slice q n c, .func (.func g) #[] lb] w fun e w' => e = .returned (.bool (l.any p)) ∧ Ext w w' := by
  have hr := hid (idx_any p l)
  go_enter Tryz.func61, Tryz.ntmps61
  go_wp2_with (go_at_call 87; refine (indexFuncInstanceD q n c base l p g lb eg _ h hp hn).mono ?_; rintro e w' ⟨rfl, hE⟩)
  go_ret
  exact ⟨ret_bool hr.out, hE⟩
set_option maxRecDepth 100000 in
set_option maxHeartbeats 4000000 in
theorem indexFuncCellD (q : Option Addr) (n c base : Nat) (l : List CeD) (p : CeD → Bool) (g : Nat) (lb : Array Value) (eg : ∀ args w, (callFunc g args).run Tryz.prog w = .ok (.enter g args) w) (w : World)
    (h : SlD CeR 4 base w q n l) (hp : ∀ (W : World) (x : CeD) (cs : List Value), Ext w W → x ∈ l → CeR base W x cs → Calls Tryz.prog g (#[.agg cs.toArray] ++ lb) W fun e w2 => e = .returned (.bool (p x)) ∧ Ext W w2) (hn : n ≤ 1048576) :
    Calls Tryz.prog 64 #[.slice q n c, .func (.func g) #[] lb] w fun e w' => e = .returned (.int .i64 (idx p l)) ∧ Ext w w' := by
  have hl := hid h.length
  go_enter Tryz.func64, Tryz.ntmps64
  go_wp2
  go_loopw [5, 8] (fun _ i wr => ∃ k : Nat, k ≤ n ∧ i = .int .i64 k ∧ Ext w wr ∧ Hid ((l.take k).any p = false)) (fun _ i _ => n - (intOf i).toNat)
  case atStart => exact ⟨0, by omega, rfl, Ext.refl _, rfl⟩
  case round =>
    obtain ⟨k, hk, rfl, hE, hA⟩ := hrel
    by_cases hlt : k < n
    · obtain ⟨b, off, x, cs, rfl, hb, hx, hcs, hc⟩ := (h.ext CeR.ok hE).get hlt
      have hrr := hid (show wr.rangeAt b (off + k * 4) cs from hc)
      have hsz := hid (show (Tryz.prog.info? 72).map (·.size) = some cs.length from by rw [CeR.ok.len hcs]; kernel_rfl)
      clear hc
      have hcall := hid (hp wr x cs hE (List.mem_of_getElem? hx.out) hcs)
      cases hq : p x with
      | true =>
        rw [hq] at hcall
        have hr : Hid (idx p l = k) := idx_hit hA.out hx.out hq
        clear hq
        go_wp2_with (first | (go_at_fn g; refine hcall.out.mono ?_; rintro e w2 ⟨rfl, hb2⟩) | (refine wpList_load_mid rfl 72 (Operand.tmp 14) rfl b (off + k * 4) rfl cs _ hrr.out Tryz.underlying72 rfl hsz.out ?_))
        go_ret
        exact ⟨ret_int hr.out.symm, hE.trans hb2⟩
      | false =>
        rw [hq] at hcall
        have hr : Hid ((l.take (k + 1)).any p = false) := any_take_snoc hA.out hx.out hq
        clear hq
        go_wp2_with (first | (go_at_fn g; refine hcall.out.mono ?_; rintro e w2 ⟨rfl, hb2⟩) | (refine wpList_load_mid rfl 72 (Operand.tmp 14) rfl b (off + k * 4) rfl cs _ hrr.out Tryz.underlying72 rfl hsz.out ?_))
        go_roundw
        case rel => exact ⟨k + 1, by omega, by go_num, hE.trans hb2, hr⟩
        case measure => simp [intOf]; omega
    · have hr : Hid (idx p l = -1) := by
        have := hA.out
        rw [take_all hl.out (by omega)] at this
        exact idx_miss this
      go_wp2_with fail
      go_ret
      exact ⟨ret_int hr.out.symm, hE⟩
end Go.Proofs.YtncmhefendhinaaGreatDoor
