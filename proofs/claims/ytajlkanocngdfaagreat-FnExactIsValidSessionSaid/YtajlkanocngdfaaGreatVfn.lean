/- Contracts of slices.IndexFunc and slices.ContainsFunc at what sessions hold, for whatever predicate that only makes memory. Condition: at most 2^20 elements. -/
import Derived.Test.YtajlkanocngdfaaGreatDtp
import Derived.Shelf.Abstract
namespace Go.Proofs.YtajlkanocngdfaaGreat
open Go.RowKit

set_option maxRecDepth 100000 in
set_option maxHeartbeats 4000000 in
theorem indexFuncShapeD (q : Option Addr) (n c base : Nat) (l : List ShD) (p : ShD → Bool) (g : Nat) (lb : Array Value) (eg : ∀ args w, (callFunc g args).run Tryz.prog w = .ok (.enter g args) w) (w : World)
    (h : SlD (Fl encSh) 5 base w q n l) (hp : ∀ (W : World) (x : ShD) (cs : List Value), Ext w W → x ∈ l → (Fl encSh) base W x cs → Calls Tryz.prog g (#[.agg cs.toArray] ++ lb) W fun e w2 => e = .returned (.bool (p x)) ∧ Ext W w2) (hn : n ≤ 1048576) :
    Calls Tryz.prog 148 #[.slice q n c, .func (.func g) #[] lb] w fun e w' => e = .returned (.int .i64 (idx p l)) ∧ Ext w w' := by
  have hl := hid h.length
  go_enter Tryz.func148, Tryz.ntmps148
  go_wp2
  go_loopw [5, 8] (fun _ i wr => ∃ k : Nat, k ≤ n ∧ i = .int .i64 k ∧ Ext w wr ∧ Hid ((l.take k).any p = false)) (fun _ i _ => n - (intOf i).toNat)
  case atStart => exact ⟨0, by omega, rfl, Ext.refl _, rfl⟩
  case round =>
    obtain ⟨k, hk, rfl, hE, hA⟩ := hrel
    by_cases hlt : k < n
    · obtain ⟨b, off, x, cs, rfl, hb, hx, hcs, hc⟩ := (h.ext okShape hE).get hlt
      have hrr := hid (show wr.rangeAt b (off + k * 5) cs from hc)
      have hsz := hid (show (Tryz.prog.info? 175).map (·.size) = some cs.length from by rw [okShape.len hcs]; kernel_rfl)
      clear hc
      have hcall := hid (hp wr x cs hE (List.mem_of_getElem? hx.out) hcs)
      cases hq : p x with
      | true =>
        rw [hq] at hcall
        have hr : Hid (idx p l = k) := idx_hit hA.out hx.out hq
        clear hq
        go_wp2_with (first | (go_at_fn g; refine hcall.out.mono ?_; rintro e w2 ⟨rfl, hb2⟩) | (refine wpList_load_mid rfl 175 (Operand.tmp 14) rfl b (off + k * 5) rfl cs _ hrr.out Tryz.underlying175 rfl hsz.out ?_))
        go_ret
        exact ⟨ret_int hr.out.symm, hE.trans hb2⟩
      | false =>
        rw [hq] at hcall
        have hr : Hid ((l.take (k + 1)).any p = false) := any_take_snoc hA.out hx.out hq
        clear hq
        go_wp2_with (first | (go_at_fn g; refine hcall.out.mono ?_; rintro e w2 ⟨rfl, hb2⟩) | (refine wpList_load_mid rfl 175 (Operand.tmp 14) rfl b (off + k * 5) rfl cs _ hrr.out Tryz.underlying175 rfl hsz.out ?_))
        go_roundw
        case rel => exact ⟨k + 1, by omega, by go_num, hE.trans hb2, hr⟩
        case measure => simp [intOf]; omega
    · have hr : Hid (idx p l = -1) := by
        have := hA.out
        rw [take_all hl.out (by omega)] at this
        exact idx_miss this
      go_wp2_with fail
      go_ret
      exact ⟨ret_int hr.out.symm, hE⟩
set_option maxRecDepth 100000 in
set_option maxHeartbeats 4000000 in
theorem containsFuncShapeD (q : Option Addr) (n c base : Nat) (l : List ShD) (p : ShD → Bool) (g : Nat) (lb : Array Value) (eg : ∀ args w, (callFunc g args).run Tryz.prog w = .ok (.enter g args) w) (w : World)
    (h : SlD (Fl encSh) 5 base w q n l) (hp : ∀ (W : World) (x : ShD) (cs : List Value), Ext w W → x ∈ l → (Fl encSh) base W x cs → Calls Tryz.prog g (#[.agg cs.toArray] ++ lb) W fun e w2 => e = .returned (.bool (p x)) ∧ Ext W w2) (hn : n ≤ 1048576) :
    Calls Tryz.prog 110 #[.slice q n c, .func (.func g) #[] lb] w fun e w' => e = .returned (.bool (l.any p)) ∧ Ext w w' := by
  have hr := hid (idx_any p l)
  go_enter Tryz.func110, Tryz.ntmps110
  go_wp2_with (go_at_call 148; refine (indexFuncShapeD q n c base l p g lb eg _ h hp hn).mono ?_; rintro e w' ⟨rfl, hE⟩)
  go_ret
  exact ⟨ret_bool hr.out, hE⟩
set_option maxRecDepth 100000 in
set_option maxHeartbeats 4000000 in
theorem indexFuncLabelD (q : Option Addr) (n c base : Nat) (l : List LbD) (p : LbD → Bool) (g : Nat) (lb : Array Value) (eg : ∀ args w, (callFunc g args).run Tryz.prog w = .ok (.enter g args) w) (w : World)
    (h : SlD (Fl encLb) 4 base w q n l) (hp : ∀ (W : World) (x : LbD) (cs : List Value), Ext w W → x ∈ l → (Fl encLb) base W x cs → Calls Tryz.prog g (#[.agg cs.toArray] ++ lb) W fun e w2 => e = .returned (.bool (p x)) ∧ Ext W w2) (hn : n ≤ 1048576) :
    Calls Tryz.prog 150 #[.slice q n c, .func (.func g) #[] lb] w fun e w' => e = .returned (.int .i64 (idx p l)) ∧ Ext w w' := by
  have hl := hid h.length
  go_enter Tryz.func150, Tryz.ntmps150
  go_wp2
  go_loopw [5, 8] (fun _ i wr => ∃ k : Nat, k ≤ n ∧ i = .int .i64 k ∧ Ext w wr ∧ Hid ((l.take k).any p = false)) (fun _ i _ => n - (intOf i).toNat)
  case atStart => exact ⟨0, by omega, rfl, Ext.refl _, rfl⟩
  case round =>
    obtain ⟨k, hk, rfl, hE, hA⟩ := hrel
    by_cases hlt : k < n
    · obtain ⟨b, off, x, cs, rfl, hb, hx, hcs, hc⟩ := (h.ext okLabel hE).get hlt
      have hrr := hid (show wr.rangeAt b (off + k * 4) cs from hc)
      have hsz := hid (show (Tryz.prog.info? 179).map (·.size) = some cs.length from by rw [okLabel.len hcs]; kernel_rfl)
      clear hc
      have hcall := hid (hp wr x cs hE (List.mem_of_getElem? hx.out) hcs)
      cases hq : p x with
      | true =>
        rw [hq] at hcall
        have hr : Hid (idx p l = k) := idx_hit hA.out hx.out hq
        clear hq
        go_wp2_with (first | (go_at_fn g; refine hcall.out.mono ?_; rintro e w2 ⟨rfl, hb2⟩) | (refine wpList_load_mid rfl 179 (Operand.tmp 14) rfl b (off + k * 4) rfl cs _ hrr.out Tryz.underlying179 rfl hsz.out ?_))
        go_ret
        exact ⟨ret_int hr.out.symm, hE.trans hb2⟩
      | false =>
        rw [hq] at hcall
        have hr : Hid ((l.take (k + 1)).any p = false) := any_take_snoc hA.out hx.out hq
        clear hq
        go_wp2_with (first | (go_at_fn g; refine hcall.out.mono ?_; rintro e w2 ⟨rfl, hb2⟩) | (refine wpList_load_mid rfl 179 (Operand.tmp 14) rfl b (off + k * 4) rfl cs _ hrr.out Tryz.underlying179 rfl hsz.out ?_))
        go_roundw
        case rel => exact ⟨k + 1, by omega, by go_num, hE.trans hb2, hr⟩
        case measure => simp [intOf]; omega
    · have hr : Hid (idx p l = -1) := by
        have := hA.out
        rw [take_all hl.out (by omega)] at this
        exact idx_miss this
      go_wp2_with fail
      go_ret
      exact ⟨ret_int hr.out.symm, hE⟩
set_option maxRecDepth 100000 in
set_option maxHeartbeats 4000000 in
theorem containsFuncLabelD (q : Option Addr) (n c base : Nat) (l : List LbD) (p : LbD → Bool) (g : Nat) (lb : Array Value) (eg : ∀ args w, (callFunc g args).run Tryz.prog w = .ok (.enter g args) w) (w : World)
    (h : SlD (Fl encLb) 4 base w q n l) (hp : ∀ (W : World) (x : LbD) (cs : List Value), Ext w W → x ∈ l → (Fl encLb) base W x cs → Calls Tryz.prog g (#[.agg cs.toArray] ++ lb) W fun e w2 => e = .returned (.bool (p x)) ∧ Ext W w2) (hn : n ≤ 1048576) :
    Calls Tryz.prog 113 #[.slice q n c, .func (.func g) #[] lb] w fun e w' => e = .returned (.bool (l.any p)) ∧ Ext w w' := by
  have hr := hid (idx_any p l)
  go_enter Tryz.func113, Tryz.ntmps113
  go_wp2_with (go_at_call 150; refine (indexFuncLabelD q n c base l p g lb eg _ h hp hn).mono ?_; rintro e w' ⟨rfl, hE⟩)
  go_ret
  exact ⟨ret_bool hr.out, hE⟩
set_option maxRecDepth 100000 in
set_option maxHeartbeats 4000000 in
theorem indexFuncInstanceD (q : Option Addr) (n c base : Nat) (l : List InD) (p : InD → Bool) (g : Nat) (lb : Array Value) (eg : ∀ args w, (callFunc g args).run Tryz.prog w = .ok (.enter g args) w) (w : World)
    (h : SlD (Fl encIn) 8 base w q n l) (hp : ∀ (W : World) (x : InD) (cs : List Value), Ext w W → x ∈ l → (Fl encIn) base W x cs → Calls Tryz.prog g (#[.agg cs.toArray] ++ lb) W fun e w2 => e = .returned (.bool (p x)) ∧ Ext W w2) (hn : n ≤ 1048576) :
    Calls Tryz.prog 152 #[.slice q n c, .func (.func g) #[] lb] w fun e w' => e = .returned (.int .i64 (idx p l)) ∧ Ext w w' := by
  have hl := hid h.length
  go_enter Tryz.func152, Tryz.ntmps152
  go_wp2
  go_loopw [5, 8] (fun _ i wr => ∃ k : Nat, k ≤ n ∧ i = .int .i64 k ∧ Ext w wr ∧ Hid ((l.take k).any p = false)) (fun _ i _ => n - (intOf i).toNat)
  case atStart => exact ⟨0, by omega, rfl, Ext.refl _, rfl⟩
  case round =>
    obtain ⟨k, hk, rfl, hE, hA⟩ := hrel
    by_cases hlt : k < n
    · obtain ⟨b, off, x, cs, rfl, hb, hx, hcs, hc⟩ := (h.ext okInstance hE).get hlt
      have hrr := hid (show wr.rangeAt b (off + k * 8) cs from hc)
      have hsz := hid (show (Tryz.prog.info? 183).map (·.size) = some cs.length from by rw [okInstance.len hcs]; kernel_rfl)
      clear hc
      have hcall := hid (hp wr x cs hE (List.mem_of_getElem? hx.out) hcs)
      cases hq : p x with
      | true =>
        rw [hq] at hcall
        have hr : Hid (idx p l = k) := idx_hit hA.out hx.out hq
        clear hq
        go_wp2_with (first | (go_at_fn g; refine hcall.out.mono ?_; rintro e w2 ⟨rfl, hb2⟩) | (refine wpList_load_mid rfl 183 (Operand.tmp 14) rfl b (off + k * 8) rfl cs _ hrr.out Tryz.underlying183 rfl hsz.out ?_))
        go_ret
        exact ⟨ret_int hr.out.symm, hE.trans hb2⟩
      | false =>
        rw [hq] at hcall
        have hr : Hid ((l.take (k + 1)).any p = false) := any_take_snoc hA.out hx.out hq
        clear hq
        go_wp2_with (first | (go_at_fn g; refine hcall.out.mono ?_; rintro e w2 ⟨rfl, hb2⟩) | (refine wpList_load_mid rfl 183 (Operand.tmp 14) rfl b (off + k * 8) rfl cs _ hrr.out Tryz.underlying183 rfl hsz.out ?_))
        go_roundw
        case rel => exact ⟨k + 1, by omega, by go_num, hE.trans hb2, hr⟩
        case measure => simp [intOf]; omega
    · have hr : Hid (idx p l = -1) := by
        have := hA.out
        rw [take_all hl.out (by omega)] at this
        exact idx_miss this
      go_wp2_with fail
      go_ret
      exact ⟨ret_int hr.out.symm, hE⟩
set_option maxRecDepth 100000 in
set_option maxHeartbeats 4000000 in
theorem containsFuncInstanceD (q : Option Addr) (n c base : Nat) (l : List InD) (p : InD → Bool) (g : Nat) (lb : Array Value) (eg : ∀ args w, (callFunc g args).run Tryz.prog w = .ok (.enter g args) w) (w : World)
    (h : SlD (Fl encIn) 8 base w q n l) (hp : ∀ (W : World) (x : InD) (cs : List Value), Ext w W → x ∈ l → (Fl encIn) base W x cs → Calls Tryz.prog g (#[.agg cs.toArray] ++ lb) W fun e w2 => e = .returned (.bool (p x)) ∧ Ext W w2) (hn : n ≤ 1048576) :
    Calls Tryz.prog 116 #[.slice q n c, .func (.func g) #[] lb] w fun e w' => e = .returned (.bool (l.any p)) ∧ Ext w w' := by
  have hr := hid (idx_any p l)
  go_enter Tryz.func116, Tryz.ntmps116
  go_wp2_with (go_at_call 152; refine (indexFuncInstanceD q n c base l p g lb eg _ h hp hn).mono ?_; rintro e w' ⟨rfl, hE⟩)
  go_ret
  exact ⟨ret_bool hr.out, hE⟩
set_option maxRecDepth 100000 in
set_option maxHeartbeats 4000000 in
theorem indexFuncEditD (q : Option Addr) (n c base : Nat) (l : List EdD) (p : EdD → Bool) (g : Nat) (lb : Array Value) (eg : ∀ args w, (callFunc g args).run Tryz.prog w = .ok (.enter g args) w) (w : World)
    (h : SlD (Fl encEd) 21 base w q n l) (hp : ∀ (W : World) (x : EdD) (cs : List Value), Ext w W → x ∈ l → (Fl encEd) base W x cs → Calls Tryz.prog g (#[.agg cs.toArray] ++ lb) W fun e w2 => e = .returned (.bool (p x)) ∧ Ext W w2) (hn : n ≤ 1048576) :
    Calls Tryz.prog 154 #[.slice q n c, .func (.func g) #[] lb] w fun e w' => e = .returned (.int .i64 (idx p l)) ∧ Ext w w' := by
  have hl := hid h.length
  go_enter Tryz.func154, Tryz.ntmps154
  go_wp2
  go_loopw [5, 8] (fun _ i wr => ∃ k : Nat, k ≤ n ∧ i = .int .i64 k ∧ Ext w wr ∧ Hid ((l.take k).any p = false)) (fun _ i _ => n - (intOf i).toNat)
  case atStart => exact ⟨0, by omega, rfl, Ext.refl _, rfl⟩
  case round =>
    obtain ⟨k, hk, rfl, hE, hA⟩ := hrel
    by_cases hlt : k < n
    · obtain ⟨b, off, x, cs, rfl, hb, hx, hcs, hc⟩ := (h.ext okEdit hE).get hlt
      have hrr := hid (show wr.rangeAt b (off + k * 21) cs from hc)
      have hsz := hid (show (Tryz.prog.info? 186).map (·.size) = some cs.length from by rw [okEdit.len hcs]; kernel_rfl)
      clear hc
      have hcall := hid (hp wr x cs hE (List.mem_of_getElem? hx.out) hcs)
      cases hq : p x with
      | true =>
        rw [hq] at hcall
        have hr : Hid (idx p l = k) := idx_hit hA.out hx.out hq
        clear hq
        go_wp2_with (first | (go_at_fn g; refine hcall.out.mono ?_; rintro e w2 ⟨rfl, hb2⟩) | (refine wpList_load_mid rfl 186 (Operand.tmp 14) rfl b (off + k * 21) rfl cs _ hrr.out Tryz.underlying186 rfl hsz.out ?_))
        go_ret
        exact ⟨ret_int hr.out.symm, hE.trans hb2⟩
      | false =>
        rw [hq] at hcall
        have hr : Hid ((l.take (k + 1)).any p = false) := any_take_snoc hA.out hx.out hq
        clear hq
        go_wp2_with (first | (go_at_fn g; refine hcall.out.mono ?_; rintro e w2 ⟨rfl, hb2⟩) | (refine wpList_load_mid rfl 186 (Operand.tmp 14) rfl b (off + k * 21) rfl cs _ hrr.out Tryz.underlying186 rfl hsz.out ?_))
        go_roundw
        case rel => exact ⟨k + 1, by omega, by go_num, hE.trans hb2, hr⟩
        case measure => simp [intOf]; omega
    · have hr : Hid (idx p l = -1) := by
        have := hA.out
        rw [take_all hl.out (by omega)] at this
        exact idx_miss this
      go_wp2_with fail
      go_ret
      exact ⟨ret_int hr.out.symm, hE⟩
set_option maxRecDepth 100000 in
set_option maxHeartbeats 4000000 in
theorem containsFuncEditD (q : Option Addr) (n c base : Nat) (l : List EdD) (p : EdD → Bool) (g : Nat) (lb : Array Value) (eg : ∀ args w, (callFunc g args).run Tryz.prog w = .ok (.enter g args) w) (w : World)
    (h : SlD (Fl encEd) 21 base w q n l) (hp : ∀ (W : World) (x : EdD) (cs : List Value), Ext w W → x ∈ l → (Fl encEd) base W x cs → Calls Tryz.prog g (#[.agg cs.toArray] ++ lb) W fun e w2 => e = .returned (.bool (p x)) ∧ Ext W w2) (hn : n ≤ 1048576) :
    Calls Tryz.prog 122 #[.slice q n c, .func (.func g) #[] lb] w fun e w' => e = .returned (.bool (l.any p)) ∧ Ext w w' := by
  have hr := hid (idx_any p l)
  go_enter Tryz.func122, Tryz.ntmps122
  go_wp2_with (go_at_call 154; refine (indexFuncEditD q n c base l p g lb eg _ h hp hn).mono ?_; rintro e w' ⟨rfl, hE⟩)
  go_ret
  exact ⟨ret_bool hr.out, hE⟩
set_option maxRecDepth 100000 in
set_option maxHeartbeats 4000000 in
theorem indexFuncDeviceD (q : Option Addr) (n c base : Nat) (l : List DvD) (p : DvD → Bool) (g : Nat) (lb : Array Value) (eg : ∀ args w, (callFunc g args).run Tryz.prog w = .ok (.enter g args) w) (w : World)
    (h : SlD DvR 4 base w q n l) (hp : ∀ (W : World) (x : DvD) (cs : List Value), Ext w W → x ∈ l → DvR base W x cs → Calls Tryz.prog g (#[.agg cs.toArray] ++ lb) W fun e w2 => e = .returned (.bool (p x)) ∧ Ext W w2) (hn : n ≤ 1048576) :
    Calls Tryz.prog 89 #[.slice q n c, .func (.func g) #[] lb] w fun e w' => e = .returned (.int .i64 (idx p l)) ∧ Ext w w' := by
  have hl := hid h.length
  go_enter Tryz.func89, Tryz.ntmps89
  go_wp2
  go_loopw [5, 8] (fun _ i wr => ∃ k : Nat, k ≤ n ∧ i = .int .i64 k ∧ Ext w wr ∧ Hid ((l.take k).any p = false)) (fun _ i _ => n - (intOf i).toNat)
  case atStart => exact ⟨0, by omega, rfl, Ext.refl _, rfl⟩
  case round =>
    obtain ⟨k, hk, rfl, hE, hA⟩ := hrel
    by_cases hlt : k < n
    · obtain ⟨b, off, x, cs, rfl, hb, hx, hcs, hc⟩ := (h.ext DvR.ok hE).get hlt
      have hrr := hid (show wr.rangeAt b (off + k * 4) cs from hc)
      have hsz := hid (show (Tryz.prog.info? 95).map (·.size) = some cs.length from by rw [DvR.ok.len hcs]; kernel_rfl)
      clear hc
      have hcall := hid (hp wr x cs hE (List.mem_of_getElem? hx.out) hcs)
      cases hq : p x with
      | true =>
        rw [hq] at hcall
        have hr : Hid (idx p l = k) := idx_hit hA.out hx.out hq
        clear hq
        go_wp2_with (first | (go_at_fn g; refine hcall.out.mono ?_; rintro e w2 ⟨rfl, hb2⟩) | (refine wpList_load_mid rfl 95 (Operand.tmp 14) rfl b (off + k * 4) rfl cs _ hrr.out Tryz.underlying95 rfl hsz.out ?_))
        go_ret
        exact ⟨ret_int hr.out.symm, hE.trans hb2⟩
      | false =>
        rw [hq] at hcall
        have hr : Hid ((l.take (k + 1)).any p = false) := any_take_snoc hA.out hx.out hq
        clear hq
        go_wp2_with (first | (go_at_fn g; refine hcall.out.mono ?_; rintro e w2 ⟨rfl, hb2⟩) | (refine wpList_load_mid rfl 95 (Operand.tmp 14) rfl b (off + k * 4) rfl cs _ hrr.out Tryz.underlying95 rfl hsz.out ?_))
        go_roundw
        case rel => exact ⟨k + 1, by omega, by go_num, hE.trans hb2, hr⟩
        case measure => simp [intOf]; omega
    · have hr : Hid (idx p l = -1) := by
        have := hA.out
        rw [take_all hl.out (by omega)] at this
        exact idx_miss this
      go_wp2_with fail
      go_ret
      exact ⟨ret_int hr.out.symm, hE⟩
set_option maxRecDepth 100000 in
set_option maxHeartbeats 4000000 in
theorem containsFuncDeviceD (q : Option Addr) (n c base : Nat) (l : List DvD) (p : DvD → Bool) (g : Nat) (lb : Array Value) (eg : ∀ args w, (callFunc g args).run Tryz.prog w = .ok (.enter g args) w) (w : World)
    (h : SlD DvR 4 base w q n l) (hp : ∀ (W : World) (x : DvD) (cs : List Value), Ext w W → x ∈ l → DvR base W x cs → Calls Tryz.prog g (#[.agg cs.toArray] ++ lb) W fun e w2 => e = .returned (.bool (p x)) ∧ Ext W w2) (hn : n ≤ 1048576) :
    Calls Tryz.prog 56 #[.slice q n c, .func (.func g) #[] lb] w fun e w' => e = .returned (.bool (l.any p)) ∧ Ext w w' := by
  have hr := hid (idx_any p l)
  go_enter Tryz.func56, Tryz.ntmps56
  go_wp2_with (go_at_call 89; refine (indexFuncDeviceD q n c base l p g lb eg _ h hp hn).mono ?_; rintro e w' ⟨rfl, hE⟩)
  go_ret
  exact ⟨ret_bool hr.out, hE⟩
set_option maxRecDepth 100000 in
set_option maxHeartbeats 4000000 in
theorem indexFuncCellD (q : Option Addr) (n c base : Nat) (l : List CeD) (p : CeD → Bool) (g : Nat) (lb : Array Value) (eg : ∀ args w, (callFunc g args).run Tryz.prog w = .ok (.enter g args) w) (w : World)
    (h : SlD CeR 4 base w q n l) (hp : ∀ (W : World) (x : CeD) (cs : List Value), Ext w W → x ∈ l → CeR base W x cs → Calls Tryz.prog g (#[.agg cs.toArray] ++ lb) W fun e w2 => e = .returned (.bool (p x)) ∧ Ext W w2) (hn : n ≤ 1048576) :
    Calls Tryz.prog 119 #[.slice q n c, .func (.func g) #[] lb] w fun e w' => e = .returned (.int .i64 (idx p l)) ∧ Ext w w' := by
  have hl := hid h.length
  go_enter Tryz.func119, Tryz.ntmps119
  go_wp2
  go_loopw [5, 8] (fun _ i wr => ∃ k : Nat, k ≤ n ∧ i = .int .i64 k ∧ Ext w wr ∧ Hid ((l.take k).any p = false)) (fun _ i _ => n - (intOf i).toNat)
  case atStart => exact ⟨0, by omega, rfl, Ext.refl _, rfl⟩
  case round =>
    obtain ⟨k, hk, rfl, hE, hA⟩ := hrel
    by_cases hlt : k < n
    · obtain ⟨b, off, x, cs, rfl, hb, hx, hcs, hc⟩ := (h.ext CeR.ok hE).get hlt
      have hrr := hid (show wr.rangeAt b (off + k * 4) cs from hc)
      have hsz := hid (show (Tryz.prog.info? 125).map (·.size) = some cs.length from by rw [CeR.ok.len hcs]; kernel_rfl)
      clear hc
      have hcall := hid (hp wr x cs hE (List.mem_of_getElem? hx.out) hcs)
      cases hq : p x with
      | true =>
        rw [hq] at hcall
        have hr : Hid (idx p l = k) := idx_hit hA.out hx.out hq
        clear hq
        go_wp2_with (first | (go_at_fn g; refine hcall.out.mono ?_; rintro e w2 ⟨rfl, hb2⟩) | (refine wpList_load_mid rfl 125 (Operand.tmp 14) rfl b (off + k * 4) rfl cs _ hrr.out Tryz.underlying125 rfl hsz.out ?_))
        go_ret
        exact ⟨ret_int hr.out.symm, hE.trans hb2⟩
      | false =>
        rw [hq] at hcall
        have hr : Hid ((l.take (k + 1)).any p = false) := any_take_snoc hA.out hx.out hq
        clear hq
        go_wp2_with (first | (go_at_fn g; refine hcall.out.mono ?_; rintro e w2 ⟨rfl, hb2⟩) | (refine wpList_load_mid rfl 125 (Operand.tmp 14) rfl b (off + k * 4) rfl cs _ hrr.out Tryz.underlying125 rfl hsz.out ?_))
        go_roundw
        case rel => exact ⟨k + 1, by omega, by go_num, hE.trans hb2, hr⟩
        case measure => simp [intOf]; omega
    · have hr : Hid (idx p l = -1) := by
        have := hA.out
        rw [take_all hl.out (by omega)] at this
        exact idx_miss this
      go_wp2_with fail
      go_ret
      exact ⟨ret_int hr.out.symm, hE⟩
set_option maxRecDepth 100000 in
set_option maxHeartbeats 4000000 in
theorem indexFuncInt64D (q : Option Addr) (n c base : Nat) (l : List Int) (p : Int → Bool) (g : Nat) (lb : Array Value) (eg : ∀ args w, (callFunc g args).run Tryz.prog w = .ok (.enter g args) w) (w : World)
    (h : SlD (Fl enc1) 1 base w q n l) (hp : ∀ (W : World) (x : Int), Ext w W → x ∈ l → Calls Tryz.prog g (#[.int .i64 x] ++ lb) W fun e w2 => e = .returned (.bool (p x)) ∧ Ext W w2) (hn : n ≤ 1048576) :
    Calls Tryz.prog 125 #[.slice q n c, .func (.func g) #[] lb] w fun e w' => e = .returned (.int .i64 (idx p l)) ∧ Ext w w' := by
  have hl := hid h.length
  go_enter Tryz.func125, Tryz.ntmps125
  go_wp2
  go_loopw [5, 8] (fun _ i wr => ∃ k : Nat, k ≤ n ∧ i = .int .i64 k ∧ Ext w wr ∧ Hid ((l.take k).any p = false)) (fun _ i _ => n - (intOf i).toNat)
  case atStart => exact ⟨0, by omega, rfl, Ext.refl _, rfl⟩
  case round =>
    obtain ⟨k, hk, rfl, hE, hA⟩ := hrel
    by_cases hlt : k < n
    · obtain ⟨b, off, x, cs, rfl, hb, hx, hcs, hc⟩ := (h.ext okInt hE).get hlt
      obtain rfl : cs = enc1 x := hcs
      have y0 := hc 0 _ rfl
      rw [Nat.add_zero, Nat.mul_one] at y0
      clear hc
      have hcall := hid (hp wr x hE (List.mem_of_getElem? hx.out))
      cases hq : p x with
      | true =>
        rw [hq] at hcall
        have hr : Hid (idx p l = k) := idx_hit hA.out hx.out hq
        clear hq
        go_wp2_with (first | (go_at_fn g; refine hcall.out.mono ?_; rintro e w2 ⟨rfl, hb2⟩))
        go_ret
        exact ⟨ret_int hr.out.symm, hE.trans hb2⟩
      | false =>
        rw [hq] at hcall
        have hr : Hid ((l.take (k + 1)).any p = false) := any_take_snoc hA.out hx.out hq
        clear hq
        go_wp2_with (first | (go_at_fn g; refine hcall.out.mono ?_; rintro e w2 ⟨rfl, hb2⟩))
        go_roundw
        case rel => exact ⟨k + 1, by omega, by go_num, hE.trans hb2, hr⟩
        case measure => simp [intOf]; omega
    · have hr : Hid (idx p l = -1) := by
        have := hA.out
        rw [take_all hl.out (by omega)] at this
        exact idx_miss this
      go_wp2_with fail
      go_ret
      exact ⟨ret_int hr.out.symm, hE⟩
set_option maxRecDepth 100000 in
set_option maxHeartbeats 4000000 in
theorem containsFuncInt64D (q : Option Addr) (n c base : Nat) (l : List Int) (p : Int → Bool) (g : Nat) (lb : Array Value) (eg : ∀ args w, (callFunc g args).run Tryz.prog w = .ok (.enter g args) w) (w : World)
    (h : SlD (Fl enc1) 1 base w q n l) (hp : ∀ (W : World) (x : Int), Ext w W → x ∈ l → Calls Tryz.prog g (#[.int .i64 x] ++ lb) W fun e w2 => e = .returned (.bool (p x)) ∧ Ext W w2) (hn : n ≤ 1048576) :
    Calls Tryz.prog 91 #[.slice q n c, .func (.func g) #[] lb] w fun e w' => e = .returned (.bool (l.any p)) ∧ Ext w w' := by
  have hr := hid (idx_any p l)
  go_enter Tryz.func91, Tryz.ntmps91
  go_wp2_with (go_at_call 125; refine (indexFuncInt64D q n c base l p g lb eg _ h hp hn).mono ?_; rintro e w' ⟨rfl, hE⟩)
  go_ret
  exact ⟨ret_bool hr.out, hE⟩
set_option maxRecDepth 100000 in
set_option maxHeartbeats 4000000 in
theorem indexFuncEditSD (q : Option Addr) (n c base : Nat) (l : List (List EdD)) (p : (List EdD) → Bool) (g : Nat) (lb : Array Value) (eg : ∀ args w, (callFunc g args).run Tryz.prog w = .ok (.enter g args) w) (w : World)
    (h : SlD (RwD (Fl encEd) 21) 1 base w q n l) (hp : ∀ (W : World) (x : List EdD) (p2 : Option Addr) (n2 c2 : Nat), Ext w W → x ∈ l → SlD (Fl encEd) 21 base W p2 n2 x → Calls Tryz.prog g (#[.slice p2 n2 c2] ++ lb) W fun e w2 => e = .returned (.bool (p x)) ∧ Ext W w2) (hn : n ≤ 1048576) :
    Calls Tryz.prog 121 #[.slice q n c, .func (.func g) #[] lb] w fun e w' => e = .returned (.int .i64 (idx p l)) ∧ Ext w w' := by
  have hl := hid h.length
  go_enter Tryz.func121, Tryz.ntmps121
  go_wp2
  go_loopw [5, 8] (fun _ i wr => ∃ k : Nat, k ≤ n ∧ i = .int .i64 k ∧ Ext w wr ∧ Hid ((l.take k).any p = false)) (fun _ i _ => n - (intOf i).toNat)
  case atStart => exact ⟨0, by omega, rfl, Ext.refl _, rfl⟩
  case round =>
    obtain ⟨k, hk, rfl, hE, hA⟩ := hrel
    by_cases hlt : k < n
    · obtain ⟨b, off, x, cs, rfl, hb, hx, hcs, hc⟩ := (h.ext (RwD.ok okEdit) hE).get hlt
      obtain ⟨p2, n2, c2, rfl, s2⟩ := hcs
      have y0 := hc 0 _ rfl
      rw [Nat.add_zero, Nat.mul_one] at y0
      clear hc
      have hcall := hid (hp wr x p2 n2 c2 hE (List.mem_of_getElem? hx.out) s2)
      cases hq : p x with
      | true =>
        rw [hq] at hcall
        have hr : Hid (idx p l = k) := idx_hit hA.out hx.out hq
        clear hq
        go_wp2_with (first | (go_at_fn g; refine hcall.out.mono ?_; rintro e w2 ⟨rfl, hb2⟩))
        go_ret
        exact ⟨ret_int hr.out.symm, hE.trans hb2⟩
      | false =>
        rw [hq] at hcall
        have hr : Hid ((l.take (k + 1)).any p = false) := any_take_snoc hA.out hx.out hq
        clear hq
        go_wp2_with (first | (go_at_fn g; refine hcall.out.mono ?_; rintro e w2 ⟨rfl, hb2⟩))
        go_roundw
        case rel => exact ⟨k + 1, by omega, by go_num, hE.trans hb2, hr⟩
        case measure => simp [intOf]; omega
    · have hr : Hid (idx p l = -1) := by
        have := hA.out
        rw [take_all hl.out (by omega)] at this
        exact idx_miss this
      go_wp2_with fail
      go_ret
      exact ⟨ret_int hr.out.symm, hE⟩
set_option maxRecDepth 100000 in
set_option maxHeartbeats 4000000 in
theorem containsFuncEditSD (q : Option Addr) (n c base : Nat) (l : List (List EdD)) (p : (List EdD) → Bool) (g : Nat) (lb : Array Value) (eg : ∀ args w, (callFunc g args).run Tryz.prog w = .ok (.enter g args) w) (w : World)
    (h : SlD (RwD (Fl encEd) 21) 1 base w q n l) (hp : ∀ (W : World) (x : List EdD) (p2 : Option Addr) (n2 c2 : Nat), Ext w W → x ∈ l → SlD (Fl encEd) 21 base W p2 n2 x → Calls Tryz.prog g (#[.slice p2 n2 c2] ++ lb) W fun e w2 => e = .returned (.bool (p x)) ∧ Ext W w2) (hn : n ≤ 1048576) :
    Calls Tryz.prog 83 #[.slice q n c, .func (.func g) #[] lb] w fun e w' => e = .returned (.bool (l.any p)) ∧ Ext w w' := by
  have hr := hid (idx_any p l)
  go_enter Tryz.func83, Tryz.ntmps83
  go_wp2_with (go_at_call 121; refine (indexFuncEditSD q n c base l p g lb eg _ h hp hn).mono ?_; rintro e w' ⟨rfl, hE⟩)
  go_ret
  exact ⟨ret_bool hr.out, hE⟩
end Go.Proofs.YtajlkanocngdfaaGreat
