/- Contracts of szX at sessions: what is left of a budget. Condition: a budget of at most 2^20, lengths that fit. -/
import Derived.Test.YtajlkanocngdfaaGreatDss
namespace Go.Proofs.YtajlkanocngdfaaGreat
open Go.RowKit

/-- What is left of a budget. -/
def lessD (left tot : Int) : Int := if left < tot then -1 else left - tot
def Fit (n : Nat) : Prop := n ≤ 9223372036854775807
def sumD {α : Type} (f : α → Nat) (l : List α) : Nat := (l.map f).sum
theorem sumD_take {α : Type} {f : α → Nat} {l : List α} {k : Nat} {x : α} (h : l[k]? = some x) : sumD f (l.take (k + 1)) = sumD f (l.take k) + f x := by
  rw [sumD, take_snoc h, List.map_append, List.sum_append, sumD]; simp
theorem sumD_le {α : Type} (f : α → Nat) (l : List α) (k : Nat) : sumD f (l.take k) ≤ sumD f l := by
  have h := List.take_append_drop k l
  have : sumD f l = sumD f (l.take k) + sumD f (l.drop k) := by
    rw [sumD, sumD, sumD, ← List.sum_append, ← List.map_append, h]
  omega
def lbT (x : LbD) : Nat := x.s.size
def wvT (x : WvD) : Nat := x.s.size
def poT (x : PoD) : Nat := x.s.size
def edT (x : EdD) : Nat := x.s.size + lbT x.lb
def edsT (l : List EdD) : Nat := l.length + sumD edT l
def dvT (x : DvD) : Nat := x.pins.length
def lbsT (l : List LbD) : Nat := l.length + sumD lbT l
def ceT (x : CeD) : Nat := x.s.size + (x.shs.length + (lbsT x.lbs + x.ins.length))

set_option maxRecDepth 100000 in
set_option maxHeartbeats 4000000 in
theorem szLabelD_any (x : LbD) (left : Int) (w : World) (h0 : 0 ≤ left) (h1 : left ≤ 1048576) (hs : x.s.size ≤ 9223372036854775807) :
    Calls Tryz.prog 134 #[.agg #[.int .i64 x.a, .int .i64 x.pt.a, .int .i64 x.pt.b, .string x.s], .int .i64 left] w fun e w' => e = .returned (.int .i64 (lessD left (lbT x : Nat))) ∧ Ext w w' := by
  by_cases h : left < x.s.size
  · have hr : Hid (-1 = lessD left (lbT x : Nat)) := by show _ = _; rw [lessD, lbT, if_pos h]
    go_enter Tryz.func134, Tryz.ntmps134
    go_wp2
    go_ret
    refine ⟨ret_int hr.out, ?_⟩
    repeat (first | exact Ext.refl _ | refine Ext.alloc ?_ _)
  · have hr : Hid (left - x.s.size = lessD left (lbT x : Nat)) := by show _ = _; rw [lessD, lbT, if_neg h]
    go_enter Tryz.func134, Tryz.ntmps134
    go_wp2
    go_ret
    refine ⟨ret_int hr.out, ?_⟩
    repeat (first | exact Ext.refl _ | refine Ext.alloc ?_ _)

set_option maxRecDepth 100000 in
set_option maxHeartbeats 4000000 in
theorem szWaiverD_any (x : WvD) (left : Int) (w : World) (h0 : 0 ≤ left) (h1 : left ≤ 1048576) (hs : x.s.size ≤ 9223372036854775807) :
    Calls Tryz.prog 32 #[.agg #[.int .i64 x.a, .string x.s], .int .i64 left] w fun e w' => e = .returned (.int .i64 (lessD left (wvT x : Nat))) ∧ Ext w w' := by
  by_cases h : left < x.s.size
  · have hr : Hid (-1 = lessD left (wvT x : Nat)) := by show _ = _; rw [lessD, wvT, if_pos h]
    go_enter Tryz.func32, Tryz.ntmps32
    go_wp2
    go_ret
    refine ⟨ret_int hr.out, ?_⟩
    repeat (first | exact Ext.refl _ | refine Ext.alloc ?_ _)
  · have hr : Hid (left - x.s.size = lessD left (wvT x : Nat)) := by show _ = _; rw [lessD, wvT, if_neg h]
    go_enter Tryz.func32, Tryz.ntmps32
    go_wp2
    go_ret
    refine ⟨ret_int hr.out, ?_⟩
    repeat (first | exact Ext.refl _ | refine Ext.alloc ?_ _)

set_option maxRecDepth 100000 in
set_option maxHeartbeats 4000000 in
theorem szPortD_any (x : PoD) (left : Int) (w : World) (h0 : 0 ≤ left) (h1 : left ≤ 1048576) (hs : x.s.size ≤ 9223372036854775807) :
    Calls Tryz.prog 68 #[.agg #[.string x.s, .int .i64 x.a], .int .i64 left] w fun e w' => e = .returned (.int .i64 (lessD left (poT x : Nat))) ∧ Ext w w' := by
  by_cases h : left < x.s.size
  · have hr : Hid (-1 = lessD left (poT x : Nat)) := by show _ = _; rw [lessD, poT, if_pos h]
    go_enter Tryz.func68, Tryz.ntmps68
    go_wp2
    go_ret
    refine ⟨ret_int hr.out, ?_⟩
    repeat (first | exact Ext.refl _ | refine Ext.alloc ?_ _)
  · have hr : Hid (left - x.s.size = lessD left (poT x : Nat)) := by show _ = _; rw [lessD, poT, if_neg h]
    go_enter Tryz.func68, Tryz.ntmps68
    go_wp2
    go_ret
    refine ⟨ret_int hr.out, ?_⟩
    repeat (first | exact Ext.refl _ | refine Ext.alloc ?_ _)

set_option maxRecDepth 100000 in
set_option maxHeartbeats 4000000 in
theorem szLabelSD_any (p : Option Addr) (n c base : Nat) (l : List LbD) (left : Int) (w : World) (h : SlD (Fl encLb) 4 base w p n l) (hn : n ≤ 9223372036854775807) (h0 : 0 ≤ left) (h1 : left ≤ 1048576) (hin : ∀ x ∈ l, x.s.size ≤ 9223372036854775807) :
    Calls Tryz.prog 132 #[.slice p n c, .int .i64 left] w fun e w' => e = .returned (.int .i64 (lessD left (l.length + sumD lbT l : Nat))) ∧ Ext w w' := by
  have hl := hid h.length
  replace hin := hid hin
  by_cases hln : left < n
  · have hr : Hid (-1 = lessD left (l.length + sumD lbT l : Nat)) := by show _ = _; rw [lessD, hl.out, if_pos (by omega)]
    go_enter Tryz.func132, Tryz.ntmps132
    go_wp2
    go_ret
    exact ⟨ret_int hr.out, Ext.refl _⟩
  · go_enter Tryz.func132, Tryz.ntmps132
    go_wp2
    go_loopw [1, 5] (fun lv i wr => ∃ (k : Nat) (L : Int), k ≤ n ∧ i = .int .i64 k ∧ lv = .int .i64 L ∧ Hid (L = left - n - sumD lbT (l.take k)) ∧ 0 ≤ L ∧ L ≤ 1048576 ∧ Ext w wr) (fun _ i _ => n - (intOf i).toNat)
    case atStart => exact ⟨0, left - n, by omega, rfl, rfl, by show _ = _; simp [sumD], by omega, by omega, Ext.refl _⟩
    case round =>
      obtain ⟨k, L, hk, rfl, rfl, hL, hL0, hL1, hE⟩ := hrel
      by_cases hlt : k < n
      · have hltI : (k : Int) < n := by omega
        obtain ⟨b, off, x, cs, rfl, hb, hx, hcs, hc⟩ := (h.ext okLabel hE).get hlt
        have hm := hid (hin.out x (List.mem_of_getElem? hx.out))
        have hst := hid (sumD_take (f := lbT) hx.out)
        have hle := hid (sumD_le lbT l (k + 1))
        obtain rfl : cs = encLb x := hcs
        have y0 := hc 0 _ rfl
        rw [Nat.add_zero] at y0
        have y1 := hc 1 _ rfl
        have y2 := hc 2 _ rfl
        have y3 := hc 3 _ rfl
        clear hc
        have hcall := hid (szLabelD_any x L wr hL0 hL1 hm.out)
        by_cases hlx : L < (lbT x : Nat)
        · have hr : Hid (-1 = lessD left (l.length + sumD lbT l : Nat)) := by
            show _ = _
            have := hst.out; have := hle.out; have := hL.out
            rw [lessD, hl.out, if_pos (by omega)]
          have hv : Hid (lessD L (lbT x : Nat) = -1) := by show _ = _; rw [lessD, if_pos hlx]
          rw [hv.out] at hcall
          go_wp2_with fail
          refine hcall.out.mono ?_
          rintro e w2 ⟨rfl, h2⟩
          go_wp2_with fail
          go_ret
          exact ⟨ret_int hr.out, hE.trans h2⟩
        · have hv : Hid (lessD L (lbT x : Nat) = L - (lbT x : Nat)) := by show _ = _; rw [lessD, if_neg hlx]
          rw [hv.out] at hcall
          obtain ⟨L2, hL2⟩ : ∃ L2 : Int, L2 = L - (lbT x : Nat) := ⟨_, rfl⟩
          rw [← hL2] at hcall
          have hb0 : 0 ≤ L2 := by omega
          have hb1 : L2 ≤ 1048576 := by omega
          replace hL2 := hid hL2
          go_wp2_with fail
          refine hcall.out.mono ?_
          rintro e w2 ⟨rfl, h2⟩
          go_wp2_with fail
          go_roundw
          case rel => exact ⟨k + 1, L2, by omega, by go_num, rfl, by show _ = _; rw [hL2.out, hL.out, hst.out]; omega, hb0, hb1, hE.trans h2⟩
          case measure => simp [intOf]; omega
      · obtain rfl : k = n := by omega
        have hr : Hid (L = lessD left (l.length + sumD lbT l : Nat)) := by
          show _ = _
          have := hL.out
          rw [take_all hl.out (Nat.le_refl _)] at this
          rw [lessD, hl.out, if_neg (by omega)]; omega
        go_wp2_with fail
        go_ret
        exact ⟨ret_int hr.out, hE⟩

set_option maxRecDepth 100000 in
set_option maxHeartbeats 4000000 in
theorem szWaiverSD_any (p : Option Addr) (n c base : Nat) (l : List WvD) (left : Int) (w : World) (h : SlD (Fl encWv) 2 base w p n l) (hn : n ≤ 9223372036854775807) (h0 : 0 ≤ left) (h1 : left ≤ 1048576) (hin : ∀ x ∈ l, x.s.size ≤ 9223372036854775807) :
    Calls Tryz.prog 11 #[.slice p n c, .int .i64 left] w fun e w' => e = .returned (.int .i64 (lessD left (l.length + sumD wvT l : Nat))) ∧ Ext w w' := by
  have hl := hid h.length
  replace hin := hid hin
  by_cases hln : left < n
  · have hr : Hid (-1 = lessD left (l.length + sumD wvT l : Nat)) := by show _ = _; rw [lessD, hl.out, if_pos (by omega)]
    go_enter Tryz.func11, Tryz.ntmps11
    go_wp2
    go_ret
    exact ⟨ret_int hr.out, Ext.refl _⟩
  · go_enter Tryz.func11, Tryz.ntmps11
    go_wp2
    go_loopw [1, 5] (fun lv i wr => ∃ (k : Nat) (L : Int), k ≤ n ∧ i = .int .i64 k ∧ lv = .int .i64 L ∧ Hid (L = left - n - sumD wvT (l.take k)) ∧ 0 ≤ L ∧ L ≤ 1048576 ∧ Ext w wr) (fun _ i _ => n - (intOf i).toNat)
    case atStart => exact ⟨0, left - n, by omega, rfl, rfl, by show _ = _; simp [sumD], by omega, by omega, Ext.refl _⟩
    case round =>
      obtain ⟨k, L, hk, rfl, rfl, hL, hL0, hL1, hE⟩ := hrel
      by_cases hlt : k < n
      · have hltI : (k : Int) < n := by omega
        obtain ⟨b, off, x, cs, rfl, hb, hx, hcs, hc⟩ := (h.ext okWaiver hE).get hlt
        have hm := hid (hin.out x (List.mem_of_getElem? hx.out))
        have hst := hid (sumD_take (f := wvT) hx.out)
        have hle := hid (sumD_le wvT l (k + 1))
        obtain rfl : cs = encWv x := hcs
        have y0 := hc 0 _ rfl
        rw [Nat.add_zero] at y0
        have y1 := hc 1 _ rfl
        clear hc
        have hcall := hid (szWaiverD_any x L wr hL0 hL1 hm.out)
        by_cases hlx : L < (wvT x : Nat)
        · have hr : Hid (-1 = lessD left (l.length + sumD wvT l : Nat)) := by
            show _ = _
            have := hst.out; have := hle.out; have := hL.out
            rw [lessD, hl.out, if_pos (by omega)]
          have hv : Hid (lessD L (wvT x : Nat) = -1) := by show _ = _; rw [lessD, if_pos hlx]
          rw [hv.out] at hcall
          go_wp2_with fail
          refine hcall.out.mono ?_
          rintro e w2 ⟨rfl, h2⟩
          go_wp2_with fail
          go_ret
          exact ⟨ret_int hr.out, hE.trans h2⟩
        · have hv : Hid (lessD L (wvT x : Nat) = L - (wvT x : Nat)) := by show _ = _; rw [lessD, if_neg hlx]
          rw [hv.out] at hcall
          obtain ⟨L2, hL2⟩ : ∃ L2 : Int, L2 = L - (wvT x : Nat) := ⟨_, rfl⟩
          rw [← hL2] at hcall
          have hb0 : 0 ≤ L2 := by omega
          have hb1 : L2 ≤ 1048576 := by omega
          replace hL2 := hid hL2
          go_wp2_with fail
          refine hcall.out.mono ?_
          rintro e w2 ⟨rfl, h2⟩
          go_wp2_with fail
          go_roundw
          case rel => exact ⟨k + 1, L2, by omega, by go_num, rfl, by show _ = _; rw [hL2.out, hL.out, hst.out]; omega, hb0, hb1, hE.trans h2⟩
          case measure => simp [intOf]; omega
      · obtain rfl : k = n := by omega
        have hr : Hid (L = lessD left (l.length + sumD wvT l : Nat)) := by
          show _ = _
          have := hL.out
          rw [take_all hl.out (Nat.le_refl _)] at this
          rw [lessD, hl.out, if_neg (by omega)]; omega
        go_wp2_with fail
        go_ret
        exact ⟨ret_int hr.out, hE⟩

set_option maxRecDepth 100000 in
set_option maxHeartbeats 4000000 in
theorem szPortSD_any (p : Option Addr) (n c base : Nat) (l : List PoD) (left : Int) (w : World) (h : SlD (Fl encPo) 2 base w p n l) (hn : n ≤ 9223372036854775807) (h0 : 0 ≤ left) (h1 : left ≤ 1048576) (hin : ∀ x ∈ l, x.s.size ≤ 9223372036854775807) :
    Calls Tryz.prog 34 #[.slice p n c, .int .i64 left] w fun e w' => e = .returned (.int .i64 (lessD left (l.length + sumD poT l : Nat))) ∧ Ext w w' := by
  have hl := hid h.length
  replace hin := hid hin
  by_cases hln : left < n
  · have hr : Hid (-1 = lessD left (l.length + sumD poT l : Nat)) := by show _ = _; rw [lessD, hl.out, if_pos (by omega)]
    go_enter Tryz.func34, Tryz.ntmps34
    go_wp2
    go_ret
    exact ⟨ret_int hr.out, Ext.refl _⟩
  · go_enter Tryz.func34, Tryz.ntmps34
    go_wp2
    go_loopw [1, 5] (fun lv i wr => ∃ (k : Nat) (L : Int), k ≤ n ∧ i = .int .i64 k ∧ lv = .int .i64 L ∧ Hid (L = left - n - sumD poT (l.take k)) ∧ 0 ≤ L ∧ L ≤ 1048576 ∧ Ext w wr) (fun _ i _ => n - (intOf i).toNat)
    case atStart => exact ⟨0, left - n, by omega, rfl, rfl, by show _ = _; simp [sumD], by omega, by omega, Ext.refl _⟩
    case round =>
      obtain ⟨k, L, hk, rfl, rfl, hL, hL0, hL1, hE⟩ := hrel
      by_cases hlt : k < n
      · have hltI : (k : Int) < n := by omega
        obtain ⟨b, off, x, cs, rfl, hb, hx, hcs, hc⟩ := (h.ext okPort hE).get hlt
        have hm := hid (hin.out x (List.mem_of_getElem? hx.out))
        have hst := hid (sumD_take (f := poT) hx.out)
        have hle := hid (sumD_le poT l (k + 1))
        obtain rfl : cs = encPo x := hcs
        have y0 := hc 0 _ rfl
        rw [Nat.add_zero] at y0
        have y1 := hc 1 _ rfl
        clear hc
        have hcall := hid (szPortD_any x L wr hL0 hL1 hm.out)
        by_cases hlx : L < (poT x : Nat)
        · have hr : Hid (-1 = lessD left (l.length + sumD poT l : Nat)) := by
            show _ = _
            have := hst.out; have := hle.out; have := hL.out
            rw [lessD, hl.out, if_pos (by omega)]
          have hv : Hid (lessD L (poT x : Nat) = -1) := by show _ = _; rw [lessD, if_pos hlx]
          rw [hv.out] at hcall
          go_wp2_with fail
          refine hcall.out.mono ?_
          rintro e w2 ⟨rfl, h2⟩
          go_wp2_with fail
          go_ret
          exact ⟨ret_int hr.out, hE.trans h2⟩
        · have hv : Hid (lessD L (poT x : Nat) = L - (poT x : Nat)) := by show _ = _; rw [lessD, if_neg hlx]
          rw [hv.out] at hcall
          obtain ⟨L2, hL2⟩ : ∃ L2 : Int, L2 = L - (poT x : Nat) := ⟨_, rfl⟩
          rw [← hL2] at hcall
          have hb0 : 0 ≤ L2 := by omega
          have hb1 : L2 ≤ 1048576 := by omega
          replace hL2 := hid hL2
          go_wp2_with fail
          refine hcall.out.mono ?_
          rintro e w2 ⟨rfl, h2⟩
          go_wp2_with fail
          go_roundw
          case rel => exact ⟨k + 1, L2, by omega, by go_num, rfl, by show _ = _; rw [hL2.out, hL.out, hst.out]; omega, hb0, hb1, hE.trans h2⟩
          case measure => simp [intOf]; omega
      · obtain rfl : k = n := by omega
        have hr : Hid (L = lessD left (l.length + sumD poT l : Nat)) := by
          show _ = _
          have := hL.out
          rw [take_all hl.out (Nat.le_refl _)] at this
          rw [lessD, hl.out, if_neg (by omega)]; omega
        go_wp2_with fail
        go_ret
        exact ⟨ret_int hr.out, hE⟩

set_option maxRecDepth 100000 in
set_option maxHeartbeats 4000000 in
theorem szInt64SD_any (p : Option Addr) (n c : Nat) (left : Int) (w : World) (h0 : 0 ≤ left) (h1 : left ≤ 1048576) (hm : n ≤ 9223372036854775807) :
    Calls Tryz.prog 101 #[.slice p n c, .int .i64 left] w fun e w' => e = .returned (.int .i64 (lessD left (n : Nat))) ∧ Ext w w' := by
  by_cases h : left < n
  · have hr : Hid (-1 = lessD left (n : Nat)) := by show _ = _; rw [lessD, if_pos h]
    go_enter Tryz.func101, Tryz.ntmps101
    go_wp2
    go_ret
    exact ⟨ret_int hr.out, Ext.refl _⟩
  · have hr : Hid (left - n = lessD left (n : Nat)) := by show _ = _; rw [lessD, if_neg h]
    go_enter Tryz.func101, Tryz.ntmps101
    go_wp2
    go_ret
    exact ⟨ret_int hr.out, Ext.refl _⟩

set_option maxRecDepth 100000 in
set_option maxHeartbeats 4000000 in
theorem szShapeSD_any (p : Option Addr) (n c : Nat) (left : Int) (w : World) (h0 : 0 ≤ left) (h1 : left ≤ 1048576) (hm : n ≤ 9223372036854775807) :
    Calls Tryz.prog 131 #[.slice p n c, .int .i64 left] w fun e w' => e = .returned (.int .i64 (lessD left (n : Nat))) ∧ Ext w w' := by
  by_cases h : left < n
  · have hr : Hid (-1 = lessD left (n : Nat)) := by show _ = _; rw [lessD, if_pos h]
    go_enter Tryz.func131, Tryz.ntmps131
    go_wp2
    go_ret
    exact ⟨ret_int hr.out, Ext.refl _⟩
  · have hr : Hid (left - n = lessD left (n : Nat)) := by show _ = _; rw [lessD, if_neg h]
    go_enter Tryz.func131, Tryz.ntmps131
    go_wp2
    go_ret
    exact ⟨ret_int hr.out, Ext.refl _⟩

set_option maxRecDepth 100000 in
set_option maxHeartbeats 4000000 in
theorem szInstanceSD_any (p : Option Addr) (n c : Nat) (left : Int) (w : World) (h0 : 0 ≤ left) (h1 : left ≤ 1048576) (hm : n ≤ 9223372036854775807) :
    Calls Tryz.prog 133 #[.slice p n c, .int .i64 left] w fun e w' => e = .returned (.int .i64 (lessD left (n : Nat))) ∧ Ext w w' := by
  by_cases h : left < n
  · have hr : Hid (-1 = lessD left (n : Nat)) := by show _ = _; rw [lessD, if_pos h]
    go_enter Tryz.func133, Tryz.ntmps133
    go_wp2
    go_ret
    exact ⟨ret_int hr.out, Ext.refl _⟩
  · have hr : Hid (left - n = lessD left (n : Nat)) := by show _ = _; rw [lessD, if_neg h]
    go_enter Tryz.func133, Tryz.ntmps133
    go_wp2
    go_ret
    exact ⟨ret_int hr.out, Ext.refl _⟩

set_option maxRecDepth 100000 in
set_option maxHeartbeats 4000000 in
theorem szRuleSD_any (p : Option Addr) (n c : Nat) (left : Int) (w : World) (h0 : 0 ≤ left) (h1 : left ≤ 1048576) (hm : n ≤ 9223372036854775807) :
    Calls Tryz.prog 31 #[.slice p n c, .int .i64 left] w fun e w' => e = .returned (.int .i64 (lessD left (n : Nat))) ∧ Ext w w' := by
  by_cases h : left < n
  · have hr : Hid (-1 = lessD left (n : Nat)) := by show _ = _; rw [lessD, if_pos h]
    go_enter Tryz.func31, Tryz.ntmps31
    go_wp2
    go_ret
    exact ⟨ret_int hr.out, Ext.refl _⟩
  · have hr : Hid (left - n = lessD left (n : Nat)) := by show _ = _; rw [lessD, if_neg h]
    go_enter Tryz.func31, Tryz.ntmps31
    go_wp2
    go_ret
    exact ⟨ret_int hr.out, Ext.refl _⟩

set_option maxRecDepth 100000 in
set_option maxHeartbeats 4000000 in
theorem szDeviceD_any (x : DvD) (p : Option Addr) (n c : Nat) (left : Int) (w : World) (h0 : 0 ≤ left) (h1 : left ≤ 1048576) (hx : x.pins.length = n) (hn : n ≤ 9223372036854775807) :
    Calls Tryz.prog 67 #[.agg #[.int .i64 x.a, .slice p n c, .int .i64 x.b, .int .i64 x.c], .int .i64 left] w fun e w' => e = .returned (.int .i64 (lessD left (dvT x : Nat))) ∧ Ext w w' := by
  have ht : Hid (∀ L : Int, L = left - (dvT x : Nat) → 0 ≤ L → L = lessD left (dvT x : Nat)) := fun L h1 h2 => by rw [lessD, if_neg (by omega)]; exact h1
  have hf : Hid (left < (dvT x : Nat) → (-1 : Int) = lessD left (dvT x : Nat)) := fun h => by rw [lessD, if_pos h]
  go_enter Tryz.func67, Tryz.ntmps67
  go_upto_region 1 with (fail)
  generalize hW : World.alloc _ _ = W0
  obtain ⟨E0, z0, b0⟩ := boxes1 hW
  clear hW z0
  replace b0 := hid (show Blk W0 w.heap.size [_, _, _, _] _ from b0)
  have g0 := b0.out.cells
  have l0 := b0.out.lt
  have E := Ext.refl W0
  obtain ⟨L0, hL0⟩ : ∃ L : Int, L = left := ⟨_, rfl⟩
  rw [← hL0]
  replace hL0 := hid hL0
  have a0 : 0 ≤ L0 := by have := hL0.out; omega
  have b00 : L0 ≤ 1048576 := by have := hL0.out; omega
  clear h0 h1
  have hcall := hid (szInt64SD_any p n c L0 W0 a0 b00 hn)
  by_cases k0 : L0 < (n : Nat)
  · have hv : Hid (lessD L0 (n : Nat) = -1) := by show _ = _; rw [lessD, if_pos k0]
    rw [hv.out] at hcall
    go_wp2_with fail
    refine hcall.out.mono ?_
    rintro e w1 ⟨rfl, E1⟩
    go_wp2_with fail
    go_ret
    exact ⟨ret_int (hf.out (by have := hL0.out; unfold dvT at *; omega)), E0.trans (E.trans E1)⟩
  · have hv : Hid (lessD L0 (n : Nat) = L0 - (n : Nat)) := by show _ = _; rw [lessD, if_neg k0]
    rw [hv.out] at hcall
    obtain ⟨L1, hL1⟩ : ∃ L : Int, L = L0 - (n : Nat) := ⟨_, rfl⟩
    rw [← hL1] at hcall
    have a1 : 0 ≤ L1 := by omega
    have b10 : L1 ≤ 1048576 := by omega
    replace hL1 := hid hL1
    replace k0 := hid k0
    go_wp2_with fail
    refine hcall.out.mono ?_
    rintro e w1 ⟨rfl, E1⟩
    clear hcall
    replace E := E.trans E1
    clear g0 l0 E1
    have g0 := (b0.out.ext E).cells
    have l0 := (b0.out.ext E).lt
    go_wp2_with fail
    go_ret
    exact ⟨ret_int (ht.out _ (by have := hL0.out; have := hL1.out; unfold dvT at *; omega) (by omega)), E0.trans E⟩

set_option maxRecDepth 100000 in
set_option maxHeartbeats 4000000 in
theorem szEditD_any (x : EdD) (left : Int) (w : World) (h0 : 0 ≤ left) (h1 : left ≤ 1048576) (hs1 : x.s.size ≤ 9223372036854775807) (hs2 : x.lb.s.size ≤ 9223372036854775807) :
    Calls Tryz.prog 100 #[.agg #[.int .i64 x.a, .int .i64 x.b, .int .i64 x.c, .string x.s, .int .i64 x.sh.a, .int .i64 x.sh.box.a, .int .i64 x.sh.box.b, .int .i64 x.sh.box.c, .int .i64 x.sh.box.d, .int .i64 x.lb.a, .int .i64 x.lb.pt.a, .int .i64 x.lb.pt.b, .string x.lb.s, .int .i64 x.ins.a, .int .i64 x.ins.tr.a, .int .i64 x.ins.tr.b, .int .i64 x.ins.tr.c, .int .i64 x.ins.c, .int .i64 x.ins.d, .int .i64 x.ins.e, .int .i64 x.ins.f], .int .i64 left] w fun e w' => e = .returned (.int .i64 (lessD left (edT x : Nat))) ∧ Ext w w' := by
  have ht : Hid (∀ L : Int, L = left - (edT x : Nat) → 0 ≤ L → L = lessD left (edT x : Nat)) := fun L h1 h2 => by rw [lessD, if_neg (by omega)]; exact h1
  have hf : Hid (left < (edT x : Nat) → (-1 : Int) = lessD left (edT x : Nat)) := fun h => by rw [lessD, if_pos h]
  go_enter Tryz.func100, Tryz.ntmps100
  go_upto_region 1 with (fail)
  generalize hW : World.alloc _ _ = W0
  obtain ⟨E0, z0, b0⟩ := boxes1 hW
  clear hW z0
  replace b0 := hid (show Blk W0 w.heap.size [_, _, _, _, _, _, _, _, _, _, _, _, _, _, _, _, _, _, _, _, _] _ from b0)
  have g0 := b0.out.cells
  have l0 := b0.out.lt
  have E := Ext.refl W0
  obtain ⟨L0, hL0⟩ : ∃ L : Int, L = left := ⟨_, rfl⟩
  rw [← hL0]
  replace hL0 := hid hL0
  have a0 : 0 ≤ L0 := by have := hL0.out; omega
  have b00 : L0 ≤ 1048576 := by have := hL0.out; omega
  clear h0 h1
  by_cases k0 : L0 < (x.s.size : Nat)
  · go_wp2_with fail
    go_ret
    exact ⟨ret_int (hf.out (by have := hL0.out; unfold edT at *; omega)), E0.trans E⟩
  · have a1 : 0 ≤ L0 - (x.s.size : Nat) := by omega
    have b10 : L0 - (x.s.size : Nat) ≤ 1048576 := by omega
    have hcall := hid (szLabelD_any x.lb (L0 - (x.s.size : Nat)) W0 a1 b10 hs2)
    by_cases k1 : (L0 - (x.s.size : Nat)) < (lbT x.lb : Nat)
    · have hv : Hid (lessD (L0 - (x.s.size : Nat)) (lbT x.lb : Nat) = -1) := by show _ = _; rw [lessD, if_pos k1]
      rw [hv.out] at hcall
      go_wp2_with fail
      refine hcall.out.mono ?_
      rintro e w2 ⟨rfl, E2⟩
      go_wp2_with fail
      go_ret
      exact ⟨ret_int (hf.out (by have := hL0.out; unfold edT at *; omega)), E0.trans (E.trans E2)⟩
    · have hv : Hid (lessD (L0 - (x.s.size : Nat)) (lbT x.lb : Nat) = (L0 - (x.s.size : Nat)) - (lbT x.lb : Nat)) := by show _ = _; rw [lessD, if_neg k1]
      rw [hv.out] at hcall
      obtain ⟨L2, hL2⟩ : ∃ L : Int, L = (L0 - (x.s.size : Nat)) - (lbT x.lb : Nat) := ⟨_, rfl⟩
      rw [← hL2] at hcall
      have a2 : 0 ≤ L2 := by omega
      have b20 : L2 ≤ 1048576 := by omega
      replace hL2 := hid hL2
      replace k1 := hid k1
      go_wp2_with fail
      refine hcall.out.mono ?_
      rintro e w2 ⟨rfl, E2⟩
      clear hcall
      replace E := E.trans E2
      clear g0 l0 E2
      have g0 := (b0.out.ext E).cells
      have l0 := (b0.out.ext E).lt
      go_wp2_with fail
      go_ret
      exact ⟨ret_int (ht.out _ (by have := hL0.out; have := hL2.out; unfold edT at *; omega) (by omega)), E0.trans E⟩

set_option maxRecDepth 100000 in
set_option maxHeartbeats 4000000 in
theorem szCellD_any (x : CeD) (p1 p2 p3 : Option Addr) (n1 c1 n2 c2 n3 c3 base : Nat) (left : Int) (w : World) (h0 : 0 ≤ left) (h1 : left ≤ 1048576) (hs1 : x.s.size ≤ 9223372036854775807) (hx1 : x.shs.length = n1) (hn1 : n1 ≤ 9223372036854775807) (s2 : SlD (Fl encLb) 4 base w p2 n2 x.lbs) (hn2 : n2 ≤ 9223372036854775807) (hin : ∀ y ∈ x.lbs, y.s.size ≤ 9223372036854775807) (hx3 : x.ins.length = n3) (hn3 : n3 ≤ 9223372036854775807) :
    Calls Tryz.prog 99 #[.agg #[.string x.s, .slice p1 n1 c1, .slice p2 n2 c2, .slice p3 n3 c3], .int .i64 left] w fun e w' => e = .returned (.int .i64 (lessD left (ceT x : Nat))) ∧ Ext w w' := by
  have ht : Hid (∀ L : Int, L = left - (ceT x : Nat) → 0 ≤ L → L = lessD left (ceT x : Nat)) := fun L h1 h2 => by rw [lessD, if_neg (by omega)]; exact h1
  have hf : Hid (left < (ceT x : Nat) → (-1 : Int) = lessD left (ceT x : Nat)) := fun h => by rw [lessD, if_pos h]
  go_enter Tryz.func99, Tryz.ntmps99
  go_upto_region 1 with (fail)
  generalize hW : World.alloc _ _ = W0
  obtain ⟨E0, z0, b0⟩ := boxes1 hW
  clear hW z0
  replace b0 := hid (show Blk W0 w.heap.size [_, _, _, _] _ from b0)
  have g0 := b0.out.cells
  have l0 := b0.out.lt
  have E := Ext.refl W0
  obtain ⟨L0, hL0⟩ : ∃ L : Int, L = left := ⟨_, rfl⟩
  rw [← hL0]
  replace hL0 := hid hL0
  have a0 : 0 ≤ L0 := by have := hL0.out; omega
  have b00 : L0 ≤ 1048576 := by have := hL0.out; omega
  clear h0 h1
  by_cases k0 : L0 < (x.s.size : Nat)
  · go_wp2_with fail
    go_ret
    exact ⟨ret_int (hf.out (by have := hL0.out; unfold ceT lbsT at *; omega)), E0.trans E⟩
  · have a1 : 0 ≤ L0 - (x.s.size : Nat) := by omega
    have b10 : L0 - (x.s.size : Nat) ≤ 1048576 := by omega
    have hcall := hid (szShapeSD_any p1 n1 c1 (L0 - (x.s.size : Nat)) W0 a1 b10 hn1)
    by_cases k1 : (L0 - (x.s.size : Nat)) < (n1 : Nat)
    · have hv : Hid (lessD (L0 - (x.s.size : Nat)) (n1 : Nat) = -1) := by show _ = _; rw [lessD, if_pos k1]
      rw [hv.out] at hcall
      go_wp2_with fail
      refine hcall.out.mono ?_
      rintro e w2 ⟨rfl, E2⟩
      go_wp2_with fail
      go_ret
      exact ⟨ret_int (hf.out (by have := hL0.out; unfold ceT lbsT at *; omega)), E0.trans (E.trans E2)⟩
    · have hv : Hid (lessD (L0 - (x.s.size : Nat)) (n1 : Nat) = (L0 - (x.s.size : Nat)) - (n1 : Nat)) := by show _ = _; rw [lessD, if_neg k1]
      rw [hv.out] at hcall
      obtain ⟨L2, hL2⟩ : ∃ L : Int, L = (L0 - (x.s.size : Nat)) - (n1 : Nat) := ⟨_, rfl⟩
      rw [← hL2] at hcall
      have a2 : 0 ≤ L2 := by omega
      have b20 : L2 ≤ 1048576 := by omega
      replace hL2 := hid hL2
      replace k1 := hid k1
      go_wp2_with fail
      refine hcall.out.mono ?_
      rintro e w2 ⟨rfl, E2⟩
      clear hcall
      replace E := E.trans E2
      clear g0 l0 E2
      have g0 := (b0.out.ext E).cells
      have l0 := (b0.out.ext E).lt
      have hcall := hid (szLabelSD_any p2 n2 c2 base x.lbs L2 w2 (s2.ext okLabel (E0.trans E)) hn2 a2 b20 hin)
      by_cases k2 : L2 < (x.lbs.length + sumD lbT x.lbs : Nat)
      · have hv : Hid (lessD L2 (x.lbs.length + sumD lbT x.lbs : Nat) = -1) := by show _ = _; rw [lessD, if_pos k2]
        rw [hv.out] at hcall
        go_wp2_with fail
        refine hcall.out.mono ?_
        rintro e w3 ⟨rfl, E3⟩
        go_wp2_with fail
        go_ret
        exact ⟨ret_int (hf.out (by have := hL0.out; have := hL2.out; unfold ceT lbsT at *; omega)), E0.trans (E.trans E3)⟩
      · have hv : Hid (lessD L2 (x.lbs.length + sumD lbT x.lbs : Nat) = L2 - (x.lbs.length + sumD lbT x.lbs : Nat)) := by show _ = _; rw [lessD, if_neg k2]
        rw [hv.out] at hcall
        obtain ⟨L3, hL3⟩ : ∃ L : Int, L = L2 - (x.lbs.length + sumD lbT x.lbs : Nat) := ⟨_, rfl⟩
        rw [← hL3] at hcall
        have a3 : 0 ≤ L3 := by omega
        have b30 : L3 ≤ 1048576 := by omega
        replace hL3 := hid hL3
        replace k2 := hid k2
        go_wp2_with fail
        refine hcall.out.mono ?_
        rintro e w3 ⟨rfl, E3⟩
        clear hcall
        replace E := E.trans E3
        clear g0 l0 E3
        have g0 := (b0.out.ext E).cells
        have l0 := (b0.out.ext E).lt
        have hcall := hid (szInstanceSD_any p3 n3 c3 L3 w3 a3 b30 hn3)
        by_cases k3 : L3 < (n3 : Nat)
        · have hv : Hid (lessD L3 (n3 : Nat) = -1) := by show _ = _; rw [lessD, if_pos k3]
          rw [hv.out] at hcall
          go_wp2_with fail
          refine hcall.out.mono ?_
          rintro e w4 ⟨rfl, E4⟩
          go_wp2_with fail
          go_ret
          exact ⟨ret_int (hf.out (by have := hL0.out; have := hL2.out; have := hL3.out; unfold ceT lbsT at *; omega)), E0.trans (E.trans E4)⟩
        · have hv : Hid (lessD L3 (n3 : Nat) = L3 - (n3 : Nat)) := by show _ = _; rw [lessD, if_neg k3]
          rw [hv.out] at hcall
          obtain ⟨L4, hL4⟩ : ∃ L : Int, L = L3 - (n3 : Nat) := ⟨_, rfl⟩
          rw [← hL4] at hcall
          have a4 : 0 ≤ L4 := by omega
          have b40 : L4 ≤ 1048576 := by omega
          replace hL4 := hid hL4
          replace k3 := hid k3
          go_wp2_with fail
          refine hcall.out.mono ?_
          rintro e w4 ⟨rfl, E4⟩
          clear hcall
          replace E := E.trans E4
          clear g0 l0 E4
          have g0 := (b0.out.ext E).cells
          have l0 := (b0.out.ext E).lt
          go_wp2_with fail
          go_ret
          exact ⟨ret_int (ht.out _ (by have := hL0.out; have := hL2.out; have := hL3.out; have := hL4.out; unfold ceT lbsT at *; omega) (by omega)), E0.trans E⟩


def dvsT (l : List DvD) : Nat := l.length + sumD dvT l
def cesT (l : List CeD) : Nat := l.length + sumD ceT l
def edssT (l : List (List EdD)) : Nat := l.length + sumD edsT l
def wvsT (l : List WvD) : Nat := l.length + sumD wvT l
def posT (l : List PoD) : Nat := l.length + sumD poT l
def nlT (x : NlD) : Nat := dvsT x.devs + posT x.ports
def etT (x : EtD) : Nat := cesT x.cells + (edssT x.undos + edssT x.redos)
def seT (x : SeD) : Nat := etT x.ed + (x.rules.length + (wvsT x.waivers + nlT x.nl))
def FitDv (x : DvD) : Prop := x.pins.length ≤ 9223372036854775807
def FitEd (x : EdD) : Prop := x.s.size ≤ 9223372036854775807 ∧ x.lb.s.size ≤ 9223372036854775807
def FitEds (l : List EdD) : Prop := l.length ≤ 9223372036854775807 ∧ ∀ x ∈ l, FitEd x
def FitCe (x : CeD) : Prop := x.s.size ≤ 9223372036854775807 ∧ x.shs.length ≤ 9223372036854775807 ∧ x.lbs.length ≤ 9223372036854775807 ∧ (∀ y ∈ x.lbs, y.s.size ≤ 9223372036854775807) ∧ x.ins.length ≤ 9223372036854775807
def FitEt (x : EtD) : Prop := x.cells.length ≤ 9223372036854775807 ∧ (∀ y ∈ x.cells, FitCe y) ∧ x.undos.length ≤ 9223372036854775807 ∧ (∀ y ∈ x.undos, FitEds y) ∧ x.redos.length ≤ 9223372036854775807 ∧ ∀ y ∈ x.redos, FitEds y
def FitNl (x : NlD) : Prop := x.devs.length ≤ 9223372036854775807 ∧ (∀ y ∈ x.devs, FitDv y) ∧ x.ports.length ≤ 9223372036854775807 ∧ ∀ y ∈ x.ports, y.s.size ≤ 9223372036854775807
def FitSe (x : SeD) : Prop := FitEt x.ed ∧ x.rules.length ≤ 9223372036854775807 ∧ (x.waivers.length ≤ 9223372036854775807 ∧ ∀ y ∈ x.waivers, y.s.size ≤ 9223372036854775807) ∧ FitNl x.nl

set_option maxRecDepth 100000 in
set_option maxHeartbeats 4000000 in
theorem szDeviceSD_any (p : Option Addr) (n c base : Nat) (l : List DvD) (left : Int) (w : World) (h : SlD DvR 4 base w p n l) (hn : n ≤ 9223372036854775807) (h0 : 0 ≤ left) (h1 : left ≤ 1048576) (hin : ∀ x ∈ l, FitDv x) :
    Calls Tryz.prog 33 #[.slice p n c, .int .i64 left] w fun e w' => e = .returned (.int .i64 (lessD left (l.length + sumD dvT l : Nat))) ∧ Ext w w' := by
  have hl := hid h.length
  replace hin := hid hin
  by_cases hln : left < n
  · have hr : Hid (-1 = lessD left (l.length + sumD dvT l : Nat)) := by show _ = _; rw [lessD, hl.out, if_pos (by omega)]
    go_enter Tryz.func33, Tryz.ntmps33
    go_wp2
    go_ret
    exact ⟨ret_int hr.out, Ext.refl _⟩
  · go_enter Tryz.func33, Tryz.ntmps33
    go_wp2
    go_loopw [1, 5] (fun lv i wr => ∃ (k : Nat) (L : Int), k ≤ n ∧ i = .int .i64 k ∧ lv = .int .i64 L ∧ Hid (L = left - n - sumD dvT (l.take k)) ∧ 0 ≤ L ∧ L ≤ 1048576 ∧ Ext w wr) (fun _ i _ => n - (intOf i).toNat)
    case atStart => exact ⟨0, left - n, by omega, rfl, rfl, by show _ = _; simp [sumD], by omega, by omega, Ext.refl _⟩
    case round =>
      obtain ⟨k, L, hk, rfl, rfl, hL, hL0, hL1, hE⟩ := hrel
      by_cases hlt : k < n
      · have hltI : (k : Int) < n := by omega
        obtain ⟨b, off, x, cs, rfl, hb, hx, hcs, hc⟩ := (h.ext DvR.ok hE).get hlt
        have hm := hid (hin.out x (List.mem_of_getElem? hx.out))
        have hst := hid (sumD_take (f := dvT) hx.out)
        have hle := hid (sumD_le dvT l (k + 1))
        obtain ⟨p1, n1, c1, rfl, s1⟩ := hcs
        have y0 := hc 0 _ rfl
        rw [Nat.add_zero] at y0
        have y1 := hc 1 _ rfl
        have y2 := hc 2 _ rfl
        have y3 := hc 3 _ rfl
        clear hc
        have hcall := hid (szDeviceD_any x p1 n1 c1 L wr hL0 hL1 s1.length (by have := s1.length; have := hm.out; unfold FitDv at this; omega))
        by_cases hlx : L < (dvT x : Nat)
        · have hr : Hid (-1 = lessD left (l.length + sumD dvT l : Nat)) := by
            show _ = _
            have := hst.out; have := hle.out; have := hL.out
            rw [lessD, hl.out, if_pos (by omega)]
          have hv : Hid (lessD L (dvT x : Nat) = -1) := by show _ = _; rw [lessD, if_pos hlx]
          rw [hv.out] at hcall
          go_wp2_with fail
          refine hcall.out.mono ?_
          rintro e w2 ⟨rfl, h2⟩
          go_wp2_with fail
          go_ret
          exact ⟨ret_int hr.out, hE.trans h2⟩
        · have hv : Hid (lessD L (dvT x : Nat) = L - (dvT x : Nat)) := by show _ = _; rw [lessD, if_neg hlx]
          rw [hv.out] at hcall
          obtain ⟨L2, hL2⟩ : ∃ L2 : Int, L2 = L - (dvT x : Nat) := ⟨_, rfl⟩
          rw [← hL2] at hcall
          have hb0 : 0 ≤ L2 := by omega
          have hb1 : L2 ≤ 1048576 := by omega
          replace hL2 := hid hL2
          go_wp2_with fail
          refine hcall.out.mono ?_
          rintro e w2 ⟨rfl, h2⟩
          go_wp2_with fail
          go_roundw
          case rel => exact ⟨k + 1, L2, by omega, by go_num, rfl, by show _ = _; rw [hL2.out, hL.out, hst.out]; omega, hb0, hb1, hE.trans h2⟩
          case measure => simp [intOf]; omega
      · obtain rfl : k = n := by omega
        have hr : Hid (L = lessD left (l.length + sumD dvT l : Nat)) := by
          show _ = _
          have := hL.out
          rw [take_all hl.out (Nat.le_refl _)] at this
          rw [lessD, hl.out, if_neg (by omega)]; omega
        go_wp2_with fail
        go_ret
        exact ⟨ret_int hr.out, hE⟩

set_option maxRecDepth 100000 in
set_option maxHeartbeats 4000000 in
theorem szEditSD_any (p : Option Addr) (n c base : Nat) (l : List EdD) (left : Int) (w : World) (h : SlD (Fl encEd) 21 base w p n l) (hn : n ≤ 9223372036854775807) (h0 : 0 ≤ left) (h1 : left ≤ 1048576) (hin : ∀ x ∈ l, FitEd x) :
    Calls Tryz.prog 66 #[.slice p n c, .int .i64 left] w fun e w' => e = .returned (.int .i64 (lessD left (l.length + sumD edT l : Nat))) ∧ Ext w w' := by
  have hl := hid h.length
  replace hin := hid hin
  have hsL := hid sizeL_Edit
  by_cases hln : left < n
  · have hr : Hid (-1 = lessD left (l.length + sumD edT l : Nat)) := by show _ = _; rw [lessD, hl.out, if_pos (by omega)]
    go_enter Tryz.func66, Tryz.ntmps66
    go_wp2
    go_ret
    exact ⟨ret_int hr.out, Ext.refl _⟩
  · go_enter Tryz.func66, Tryz.ntmps66
    go_wp2
    go_loopw [1, 5] (fun lv i wr => ∃ (k : Nat) (L : Int), k ≤ n ∧ i = .int .i64 k ∧ lv = .int .i64 L ∧ Hid (L = left - n - sumD edT (l.take k)) ∧ 0 ≤ L ∧ L ≤ 1048576 ∧ Ext w wr) (fun _ i _ => n - (intOf i).toNat)
    case atStart => exact ⟨0, left - n, by omega, rfl, rfl, by show _ = _; simp [sumD], by omega, by omega, Ext.refl _⟩
    case round =>
      obtain ⟨k, L, hk, rfl, rfl, hL, hL0, hL1, hE⟩ := hrel
      by_cases hlt : k < n
      · have hltI : (k : Int) < n := by omega
        obtain ⟨b, off, x, cs, rfl, hb, hx, hcs, hc⟩ := (h.ext okEdit hE).get hlt
        have hm := hid (hin.out x (List.mem_of_getElem? hx.out))
        have hst := hid (sumD_take (f := edT) hx.out)
        have hle := hid (sumD_le edT l (k + 1))
        obtain rfl : cs = encEd x := hcs
        have hrr := hid (show wr.rangeAt b (off + k * 21) (encEd x) from hc)
        clear hc
        have hcall := hid (szEditD_any x L wr hL0 hL1 hm.out.1 hm.out.2)
        by_cases hlx : L < (edT x : Nat)
        · have hr : Hid (-1 = lessD left (l.length + sumD edT l : Nat)) := by
            show _ = _
            have := hst.out; have := hle.out; have := hL.out
            rw [lessD, hl.out, if_pos (by omega)]
          have hv : Hid (lessD L (edT x : Nat) = -1) := by show _ = _; rw [lessD, if_pos hlx]
          rw [hv.out] at hcall
          go_wp2_with (refine wpList_load_mid rfl 170 (Operand.tmp 20) rfl b (off + k * 21) rfl (encEd x) _ hrr.out Tryz.underlying170 rfl hsL.out ?_)
          refine hcall.out.mono ?_
          rintro e w2 ⟨rfl, h2⟩
          go_wp2_with fail
          go_ret
          exact ⟨ret_int hr.out, hE.trans h2⟩
        · have hv : Hid (lessD L (edT x : Nat) = L - (edT x : Nat)) := by show _ = _; rw [lessD, if_neg hlx]
          rw [hv.out] at hcall
          obtain ⟨L2, hL2⟩ : ∃ L2 : Int, L2 = L - (edT x : Nat) := ⟨_, rfl⟩
          rw [← hL2] at hcall
          have hb0 : 0 ≤ L2 := by omega
          have hb1 : L2 ≤ 1048576 := by omega
          replace hL2 := hid hL2
          go_wp2_with (refine wpList_load_mid rfl 170 (Operand.tmp 20) rfl b (off + k * 21) rfl (encEd x) _ hrr.out Tryz.underlying170 rfl hsL.out ?_)
          refine hcall.out.mono ?_
          rintro e w2 ⟨rfl, h2⟩
          go_wp2_with fail
          go_roundw
          case rel => exact ⟨k + 1, L2, by omega, by go_num, rfl, by show _ = _; rw [hL2.out, hL.out, hst.out]; omega, hb0, hb1, hE.trans h2⟩
          case measure => simp [intOf]; omega
      · obtain rfl : k = n := by omega
        have hr : Hid (L = lessD left (l.length + sumD edT l : Nat)) := by
          show _ = _
          have := hL.out
          rw [take_all hl.out (Nat.le_refl _)] at this
          rw [lessD, hl.out, if_neg (by omega)]; omega
        go_wp2_with fail
        go_ret
        exact ⟨ret_int hr.out, hE⟩

theorem szEditSD_t (p : Option Addr) (n c base : Nat) (l : List EdD) (left : Int) (w : World) (h : SlD (Fl encEd) 21 base w p n l) (hn : n ≤ 9223372036854775807) (h0 : 0 ≤ left) (h1 : left ≤ 1048576) (hin : ∀ x ∈ l, FitEd x) :
    Calls Tryz.prog 66 #[.slice p n c, .int .i64 left] w fun e w' => e = .returned (.int .i64 (lessD left (edsT l : Nat))) ∧ Ext w w' := szEditSD_any p n c base l left w h hn h0 h1 hin

set_option maxRecDepth 100000 in
set_option maxHeartbeats 4000000 in
theorem szCellSD_any (p : Option Addr) (n c base : Nat) (l : List CeD) (left : Int) (w : World) (h : SlD CeR 4 base w p n l) (hn : n ≤ 9223372036854775807) (h0 : 0 ≤ left) (h1 : left ≤ 1048576) (hin : ∀ x ∈ l, FitCe x) :
    Calls Tryz.prog 65 #[.slice p n c, .int .i64 left] w fun e w' => e = .returned (.int .i64 (lessD left (l.length + sumD ceT l : Nat))) ∧ Ext w w' := by
  have hl := hid h.length
  replace hin := hid hin
  by_cases hln : left < n
  · have hr : Hid (-1 = lessD left (l.length + sumD ceT l : Nat)) := by show _ = _; rw [lessD, hl.out, if_pos (by omega)]
    go_enter Tryz.func65, Tryz.ntmps65
    go_wp2
    go_ret
    exact ⟨ret_int hr.out, Ext.refl _⟩
  · go_enter Tryz.func65, Tryz.ntmps65
    go_wp2
    go_loopw [1, 5] (fun lv i wr => ∃ (k : Nat) (L : Int), k ≤ n ∧ i = .int .i64 k ∧ lv = .int .i64 L ∧ Hid (L = left - n - sumD ceT (l.take k)) ∧ 0 ≤ L ∧ L ≤ 1048576 ∧ Ext w wr) (fun _ i _ => n - (intOf i).toNat)
    case atStart => exact ⟨0, left - n, by omega, rfl, rfl, by show _ = _; simp [sumD], by omega, by omega, Ext.refl _⟩
    case round =>
      obtain ⟨k, L, hk, rfl, rfl, hL, hL0, hL1, hE⟩ := hrel
      by_cases hlt : k < n
      · have hltI : (k : Int) < n := by omega
        obtain ⟨b, off, x, cs, rfl, hb, hx, hcs, hc⟩ := (h.ext CeR.ok hE).get hlt
        have hm := hid (hin.out x (List.mem_of_getElem? hx.out))
        have hst := hid (sumD_take (f := ceT) hx.out)
        have hle := hid (sumD_le ceT l (k + 1))
        obtain ⟨p1, n1, c1, p2, n2, c2, p3, n3, c3, rfl, s1, s2, s3⟩ := hcs
        have y0 := hc 0 _ rfl
        rw [Nat.add_zero] at y0
        have y1 := hc 1 _ rfl
        have y2 := hc 2 _ rfl
        have y3 := hc 3 _ rfl
        clear hc
        have hcall := hid (szCellD_any x p1 p2 p3 n1 c1 n2 c2 n3 c3 base L wr hL0 hL1 hm.out.1 s1.length (by have := s1.length; have := hm.out.2.1; omega) s2 (by have := s2.length; have := hm.out.2.2.1; omega) hm.out.2.2.2.1 s3.length (by have := s3.length; have := hm.out.2.2.2.2; omega))
        by_cases hlx : L < (ceT x : Nat)
        · have hr : Hid (-1 = lessD left (l.length + sumD ceT l : Nat)) := by
            show _ = _
            have := hst.out; have := hle.out; have := hL.out
            rw [lessD, hl.out, if_pos (by omega)]
          have hv : Hid (lessD L (ceT x : Nat) = -1) := by show _ = _; rw [lessD, if_pos hlx]
          rw [hv.out] at hcall
          go_wp2_with fail
          refine hcall.out.mono ?_
          rintro e w2 ⟨rfl, h2⟩
          go_wp2_with fail
          go_ret
          exact ⟨ret_int hr.out, hE.trans h2⟩
        · have hv : Hid (lessD L (ceT x : Nat) = L - (ceT x : Nat)) := by show _ = _; rw [lessD, if_neg hlx]
          rw [hv.out] at hcall
          obtain ⟨L2, hL2⟩ : ∃ L2 : Int, L2 = L - (ceT x : Nat) := ⟨_, rfl⟩
          rw [← hL2] at hcall
          have hb0 : 0 ≤ L2 := by omega
          have hb1 : L2 ≤ 1048576 := by omega
          replace hL2 := hid hL2
          go_wp2_with fail
          refine hcall.out.mono ?_
          rintro e w2 ⟨rfl, h2⟩
          go_wp2_with fail
          go_roundw
          case rel => exact ⟨k + 1, L2, by omega, by go_num, rfl, by show _ = _; rw [hL2.out, hL.out, hst.out]; omega, hb0, hb1, hE.trans h2⟩
          case measure => simp [intOf]; omega
      · obtain rfl : k = n := by omega
        have hr : Hid (L = lessD left (l.length + sumD ceT l : Nat)) := by
          show _ = _
          have := hL.out
          rw [take_all hl.out (Nat.le_refl _)] at this
          rw [lessD, hl.out, if_neg (by omega)]; omega
        go_wp2_with fail
        go_ret
        exact ⟨ret_int hr.out, hE⟩

set_option maxRecDepth 100000 in
set_option maxHeartbeats 4000000 in
theorem szEditSSD_any (p : Option Addr) (n c base : Nat) (l : List (List EdD)) (left : Int) (w : World) (h : SlD (RwD (Fl encEd) 21) 1 base w p n l) (hn : n ≤ 9223372036854775807) (h0 : 0 ≤ left) (h1 : left ≤ 1048576) (hin : ∀ x ∈ l, FitEds x) :
    Calls Tryz.prog 30 #[.slice p n c, .int .i64 left] w fun e w' => e = .returned (.int .i64 (lessD left (l.length + sumD edsT l : Nat))) ∧ Ext w w' := by
  have hl := hid h.length
  replace hin := hid hin
  by_cases hln : left < n
  · have hr : Hid (-1 = lessD left (l.length + sumD edsT l : Nat)) := by show _ = _; rw [lessD, hl.out, if_pos (by omega)]
    go_enter Tryz.func30, Tryz.ntmps30
    go_wp2
    go_ret
    exact ⟨ret_int hr.out, Ext.refl _⟩
  · go_enter Tryz.func30, Tryz.ntmps30
    go_wp2
    go_loopw [1, 5] (fun lv i wr => ∃ (k : Nat) (L : Int), k ≤ n ∧ i = .int .i64 k ∧ lv = .int .i64 L ∧ Hid (L = left - n - sumD edsT (l.take k)) ∧ 0 ≤ L ∧ L ≤ 1048576 ∧ Ext w wr) (fun _ i _ => n - (intOf i).toNat)
    case atStart => exact ⟨0, left - n, by omega, rfl, rfl, by show _ = _; simp [sumD], by omega, by omega, Ext.refl _⟩
    case round =>
      obtain ⟨k, L, hk, rfl, rfl, hL, hL0, hL1, hE⟩ := hrel
      by_cases hlt : k < n
      · have hltI : (k : Int) < n := by omega
        obtain ⟨b, off, x, cs, rfl, hb, hx, hcs, hc⟩ := (h.ext (RwD.ok okEdit) hE).get hlt
        have hm := hid (hin.out x (List.mem_of_getElem? hx.out))
        have hst := hid (sumD_take (f := edsT) hx.out)
        have hle := hid (sumD_le edsT l (k + 1))
        obtain ⟨p1, n1, c1, rfl, s1⟩ := hcs
        have y0 := hc 0 _ rfl
        rw [Nat.add_zero, Nat.mul_one] at y0
        clear hc
        have hcall := hid (szEditSD_t p1 n1 c1 base x L wr s1 (by have := s1.length; have := hm.out.1; omega) hL0 hL1 hm.out.2)
        by_cases hlx : L < (edsT x : Nat)
        · have hr : Hid (-1 = lessD left (l.length + sumD edsT l : Nat)) := by
            show _ = _
            have := hst.out; have := hle.out; have := hL.out
            rw [lessD, hl.out, if_pos (by omega)]
          have hv : Hid (lessD L (edsT x : Nat) = -1) := by show _ = _; rw [lessD, if_pos hlx]
          rw [hv.out] at hcall
          go_wp2_with fail
          refine hcall.out.mono ?_
          rintro e w2 ⟨rfl, h2⟩
          go_wp2_with fail
          go_ret
          exact ⟨ret_int hr.out, hE.trans h2⟩
        · have hv : Hid (lessD L (edsT x : Nat) = L - (edsT x : Nat)) := by show _ = _; rw [lessD, if_neg hlx]
          rw [hv.out] at hcall
          obtain ⟨L2, hL2⟩ : ∃ L2 : Int, L2 = L - (edsT x : Nat) := ⟨_, rfl⟩
          rw [← hL2] at hcall
          have hb0 : 0 ≤ L2 := by omega
          have hb1 : L2 ≤ 1048576 := by omega
          replace hL2 := hid hL2
          go_wp2_with fail
          refine hcall.out.mono ?_
          rintro e w2 ⟨rfl, h2⟩
          go_wp2_with fail
          go_roundw
          case rel => exact ⟨k + 1, L2, by omega, by go_num, rfl, by show _ = _; rw [hL2.out, hL.out, hst.out]; omega, hb0, hb1, hE.trans h2⟩
          case measure => simp [intOf]; omega
      · obtain rfl : k = n := by omega
        have hr : Hid (L = lessD left (l.length + sumD edsT l : Nat)) := by
          show _ = _
          have := hL.out
          rw [take_all hl.out (Nat.le_refl _)] at this
          rw [lessD, hl.out, if_neg (by omega)]; omega
        go_wp2_with fail
        go_ret
        exact ⟨ret_int hr.out, hE⟩

set_option maxRecDepth 100000 in
set_option maxHeartbeats 4000000 in
theorem szLibraryD_any (l : List CeD) (p1 : Option Addr) (n1 c1 base : Nat) (left : Int) (w : World) (h0 : 0 ≤ left) (h1 : left ≤ 1048576) (s1 : SlD CeR 4 base w p1 n1 l) (hn1 : n1 ≤ 9223372036854775807) (hi1 : ∀ y ∈ l, FitCe y) :
    Calls Tryz.prog 29 #[.agg #[.slice p1 n1 c1], .int .i64 left] w fun e w' => e = .returned (.int .i64 (lessD left (cesT l : Nat))) ∧ Ext w w' := by
  have ht : Hid (∀ L : Int, L = left - (cesT l : Nat) → 0 ≤ L → L = lessD left (cesT l : Nat)) := fun L h1 h2 => by rw [lessD, if_neg (by omega)]; exact h1
  have hf : Hid (left < (cesT l : Nat) → (-1 : Int) = lessD left (cesT l : Nat)) := fun h => by rw [lessD, if_pos h]
  go_enter Tryz.func29, Tryz.ntmps29
  go_upto_region 1 with (fail)
  generalize hW : World.alloc _ _ = W0
  obtain ⟨E0, z0, b0⟩ := boxes1 hW
  clear hW z0
  replace b0 := hid (show Blk W0 w.heap.size [_] _ from b0)
  have g0 := b0.out.cells
  have l0 := b0.out.lt
  have E := Ext.refl W0
  obtain ⟨L0, hL0⟩ : ∃ L : Int, L = left := ⟨_, rfl⟩
  rw [← hL0]
  replace hL0 := hid hL0
  have a0 : 0 ≤ L0 := by have := hL0.out; omega
  have b00 : L0 ≤ 1048576 := by have := hL0.out; omega
  clear h0 h1
  have hcall := hid (szCellSD_any p1 n1 c1 base l L0 W0 (s1.ext CeR.ok (E0.trans E)) hn1 a0 b00 hi1)
  by_cases k0 : L0 < (l.length + sumD ceT l : Nat)
  · have hv : Hid (lessD L0 (l.length + sumD ceT l : Nat) = -1) := by show _ = _; rw [lessD, if_pos k0]
    rw [hv.out] at hcall
    go_wp2_with fail
    refine hcall.out.mono ?_
    rintro e w1 ⟨rfl, E1⟩
    go_wp2_with fail
    go_ret
    exact ⟨ret_int (hf.out (by have := hL0.out; unfold cesT at *; omega)), E0.trans (E.trans E1)⟩
  · have hv : Hid (lessD L0 (l.length + sumD ceT l : Nat) = L0 - (l.length + sumD ceT l : Nat)) := by show _ = _; rw [lessD, if_neg k0]
    rw [hv.out] at hcall
    obtain ⟨L1, hL1⟩ : ∃ L : Int, L = L0 - (l.length + sumD ceT l : Nat) := ⟨_, rfl⟩
    rw [← hL1] at hcall
    have a1 : 0 ≤ L1 := by omega
    have b10 : L1 ≤ 1048576 := by omega
    replace hL1 := hid hL1
    replace k0 := hid k0
    go_wp2_with fail
    refine hcall.out.mono ?_
    rintro e w1 ⟨rfl, E1⟩
    clear hcall
    replace E := E.trans E1
    clear g0 l0 E1
    have g0 := (b0.out.ext E).cells
    have l0 := (b0.out.ext E).lt
    go_wp2_with fail
    go_ret
    exact ⟨ret_int (ht.out _ (by have := hL0.out; have := hL1.out; unfold cesT at *; omega) (by omega)), E0.trans E⟩

set_option maxRecDepth 100000 in
set_option maxHeartbeats 4000000 in
theorem szEditorD_any (x : EtD) (p1 p2 p3 : Option Addr) (n1 c1 n2 c2 n3 c3 base : Nat) (left : Int) (w : World) (h0 : 0 ≤ left) (h1 : left ≤ 1048576) (s1 : SlD CeR 4 base w p1 n1 x.cells) (hn1 : n1 ≤ 9223372036854775807) (hi1 : ∀ y ∈ x.cells, FitCe y) (s2 : SlD (RwD (Fl encEd) 21) 1 base w p2 n2 x.undos) (hn2 : n2 ≤ 9223372036854775807) (hi2 : ∀ y ∈ x.undos, FitEds y) (s3 : SlD (RwD (Fl encEd) 21) 1 base w p3 n3 x.redos) (hn3 : n3 ≤ 9223372036854775807) (hi3 : ∀ y ∈ x.redos, FitEds y) :
    Calls Tryz.prog 9 #[.agg #[.slice p1 n1 c1, .slice p2 n2 c2, .slice p3 n3 c3], .int .i64 left] w fun e w' => e = .returned (.int .i64 (lessD left (etT x : Nat))) ∧ Ext w w' := by
  have ht : Hid (∀ L : Int, L = left - (etT x : Nat) → 0 ≤ L → L = lessD left (etT x : Nat)) := fun L h1 h2 => by rw [lessD, if_neg (by omega)]; exact h1
  have hf : Hid (left < (etT x : Nat) → (-1 : Int) = lessD left (etT x : Nat)) := fun h => by rw [lessD, if_pos h]
  go_enter Tryz.func9, Tryz.ntmps9
  go_upto_region 1 with (fail)
  generalize hW : World.alloc _ _ = W0
  obtain ⟨E0, z0, b0⟩ := boxes1 hW
  clear hW z0
  replace b0 := hid (show Blk W0 w.heap.size [_, _, _] _ from b0)
  have g0 := b0.out.cells
  have l0 := b0.out.lt
  have E := Ext.refl W0
  obtain ⟨L0, hL0⟩ : ∃ L : Int, L = left := ⟨_, rfl⟩
  rw [← hL0]
  replace hL0 := hid hL0
  have a0 : 0 ≤ L0 := by have := hL0.out; omega
  have b00 : L0 ≤ 1048576 := by have := hL0.out; omega
  clear h0 h1
  have hcall := hid (szLibraryD_any x.cells p1 n1 c1 base L0 W0 a0 b00 (s1.ext CeR.ok (E0.trans E)) hn1 hi1)
  by_cases k0 : L0 < (cesT x.cells : Nat)
  · have hv : Hid (lessD L0 (cesT x.cells : Nat) = -1) := by show _ = _; rw [lessD, if_pos k0]
    rw [hv.out] at hcall
    go_wp2_with fail
    refine hcall.out.mono ?_
    rintro e w1 ⟨rfl, E1⟩
    go_wp2_with fail
    go_ret
    exact ⟨ret_int (hf.out (by have := hL0.out; unfold etT edssT at *; omega)), E0.trans (E.trans E1)⟩
  · have hv : Hid (lessD L0 (cesT x.cells : Nat) = L0 - (cesT x.cells : Nat)) := by show _ = _; rw [lessD, if_neg k0]
    rw [hv.out] at hcall
    obtain ⟨L1, hL1⟩ : ∃ L : Int, L = L0 - (cesT x.cells : Nat) := ⟨_, rfl⟩
    rw [← hL1] at hcall
    have a1 : 0 ≤ L1 := by omega
    have b10 : L1 ≤ 1048576 := by omega
    replace hL1 := hid hL1
    replace k0 := hid k0
    go_wp2_with fail
    refine hcall.out.mono ?_
    rintro e w1 ⟨rfl, E1⟩
    clear hcall
    replace E := E.trans E1
    clear g0 l0 E1
    have g0 := (b0.out.ext E).cells
    have l0 := (b0.out.ext E).lt
    have hcall := hid (szEditSSD_any p2 n2 c2 base x.undos L1 w1 (s2.ext (RwD.ok okEdit) (E0.trans E)) hn2 a1 b10 hi2)
    by_cases k1 : L1 < (x.undos.length + sumD edsT x.undos : Nat)
    · have hv : Hid (lessD L1 (x.undos.length + sumD edsT x.undos : Nat) = -1) := by show _ = _; rw [lessD, if_pos k1]
      rw [hv.out] at hcall
      go_wp2_with fail
      refine hcall.out.mono ?_
      rintro e w2 ⟨rfl, E2⟩
      go_wp2_with fail
      go_ret
      exact ⟨ret_int (hf.out (by have := hL0.out; have := hL1.out; unfold etT edssT at *; omega)), E0.trans (E.trans E2)⟩
    · have hv : Hid (lessD L1 (x.undos.length + sumD edsT x.undos : Nat) = L1 - (x.undos.length + sumD edsT x.undos : Nat)) := by show _ = _; rw [lessD, if_neg k1]
      rw [hv.out] at hcall
      obtain ⟨L2, hL2⟩ : ∃ L : Int, L = L1 - (x.undos.length + sumD edsT x.undos : Nat) := ⟨_, rfl⟩
      rw [← hL2] at hcall
      have a2 : 0 ≤ L2 := by omega
      have b20 : L2 ≤ 1048576 := by omega
      replace hL2 := hid hL2
      replace k1 := hid k1
      go_wp2_with fail
      refine hcall.out.mono ?_
      rintro e w2 ⟨rfl, E2⟩
      clear hcall
      replace E := E.trans E2
      clear g0 l0 E2
      have g0 := (b0.out.ext E).cells
      have l0 := (b0.out.ext E).lt
      have hcall := hid (szEditSSD_any p3 n3 c3 base x.redos L2 w2 (s3.ext (RwD.ok okEdit) (E0.trans E)) hn3 a2 b20 hi3)
      by_cases k2 : L2 < (x.redos.length + sumD edsT x.redos : Nat)
      · have hv : Hid (lessD L2 (x.redos.length + sumD edsT x.redos : Nat) = -1) := by show _ = _; rw [lessD, if_pos k2]
        rw [hv.out] at hcall
        go_wp2_with fail
        refine hcall.out.mono ?_
        rintro e w3 ⟨rfl, E3⟩
        go_wp2_with fail
        go_ret
        exact ⟨ret_int (hf.out (by have := hL0.out; have := hL1.out; have := hL2.out; unfold etT edssT at *; omega)), E0.trans (E.trans E3)⟩
      · have hv : Hid (lessD L2 (x.redos.length + sumD edsT x.redos : Nat) = L2 - (x.redos.length + sumD edsT x.redos : Nat)) := by show _ = _; rw [lessD, if_neg k2]
        rw [hv.out] at hcall
        obtain ⟨L3, hL3⟩ : ∃ L : Int, L = L2 - (x.redos.length + sumD edsT x.redos : Nat) := ⟨_, rfl⟩
        rw [← hL3] at hcall
        have a3 : 0 ≤ L3 := by omega
        have b30 : L3 ≤ 1048576 := by omega
        replace hL3 := hid hL3
        replace k2 := hid k2
        go_wp2_with fail
        refine hcall.out.mono ?_
        rintro e w3 ⟨rfl, E3⟩
        clear hcall
        replace E := E.trans E3
        clear g0 l0 E3
        have g0 := (b0.out.ext E).cells
        have l0 := (b0.out.ext E).lt
        go_wp2_with fail
        go_ret
        exact ⟨ret_int (ht.out _ (by have := hL0.out; have := hL1.out; have := hL2.out; have := hL3.out; unfold etT edssT at *; omega) (by omega)), E0.trans E⟩

set_option maxRecDepth 100000 in
set_option maxHeartbeats 4000000 in
theorem szDeckD_any (l : List RuD) (p1 : Option Addr) (n1 c1 : Nat) (left : Int) (w : World) (h0 : 0 ≤ left) (h1 : left ≤ 1048576) (hx1 : l.length = n1) (hn1 : n1 ≤ 9223372036854775807) :
    Calls Tryz.prog 10 #[.agg #[.slice p1 n1 c1], .int .i64 left] w fun e w' => e = .returned (.int .i64 (lessD left (l.length : Nat))) ∧ Ext w w' := by
  have ht : Hid (∀ L : Int, L = left - (l.length : Nat) → 0 ≤ L → L = lessD left (l.length : Nat)) := fun L h1 h2 => by rw [lessD, if_neg (by omega)]; exact h1
  have hf : Hid (left < (l.length : Nat) → (-1 : Int) = lessD left (l.length : Nat)) := fun h => by rw [lessD, if_pos h]
  go_enter Tryz.func10, Tryz.ntmps10
  go_upto_region 1 with (fail)
  generalize hW : World.alloc _ _ = W0
  obtain ⟨E0, z0, b0⟩ := boxes1 hW
  clear hW z0
  replace b0 := hid (show Blk W0 w.heap.size [_] _ from b0)
  have g0 := b0.out.cells
  have l0 := b0.out.lt
  have E := Ext.refl W0
  obtain ⟨L0, hL0⟩ : ∃ L : Int, L = left := ⟨_, rfl⟩
  rw [← hL0]
  replace hL0 := hid hL0
  have a0 : 0 ≤ L0 := by have := hL0.out; omega
  have b00 : L0 ≤ 1048576 := by have := hL0.out; omega
  clear h0 h1
  have hcall := hid (szRuleSD_any p1 n1 c1 L0 W0 a0 b00 hn1)
  by_cases k0 : L0 < (n1 : Nat)
  · have hv : Hid (lessD L0 (n1 : Nat) = -1) := by show _ = _; rw [lessD, if_pos k0]
    rw [hv.out] at hcall
    go_wp2_with fail
    refine hcall.out.mono ?_
    rintro e w1 ⟨rfl, E1⟩
    go_wp2_with fail
    go_ret
    exact ⟨ret_int (hf.out (by have := hL0.out;  omega)), E0.trans (E.trans E1)⟩
  · have hv : Hid (lessD L0 (n1 : Nat) = L0 - (n1 : Nat)) := by show _ = _; rw [lessD, if_neg k0]
    rw [hv.out] at hcall
    obtain ⟨L1, hL1⟩ : ∃ L : Int, L = L0 - (n1 : Nat) := ⟨_, rfl⟩
    rw [← hL1] at hcall
    have a1 : 0 ≤ L1 := by omega
    have b10 : L1 ≤ 1048576 := by omega
    replace hL1 := hid hL1
    replace k0 := hid k0
    go_wp2_with fail
    refine hcall.out.mono ?_
    rintro e w1 ⟨rfl, E1⟩
    clear hcall
    replace E := E.trans E1
    clear g0 l0 E1
    have g0 := (b0.out.ext E).cells
    have l0 := (b0.out.ext E).lt
    go_wp2_with fail
    go_ret
    exact ⟨ret_int (ht.out _ (by have := hL0.out; have := hL1.out;  omega) (by omega)), E0.trans E⟩

set_option maxRecDepth 100000 in
set_option maxHeartbeats 4000000 in
theorem szNetlistD_any (x : NlD) (p1 p2 : Option Addr) (n1 c1 n2 c2 base : Nat) (left : Int) (w : World) (h0 : 0 ≤ left) (h1 : left ≤ 1048576) (s1 : SlD DvR 4 base w p1 n1 x.devs) (hn1 : n1 ≤ 9223372036854775807) (hi1 : ∀ y ∈ x.devs, FitDv y) (s2 : SlD (Fl encPo) 2 base w p2 n2 x.ports) (hn2 : n2 ≤ 9223372036854775807) (hi2 : ∀ y ∈ x.ports, y.s.size ≤ 9223372036854775807) :
    Calls Tryz.prog 12 #[.agg #[.int .i64 x.nets, .slice p1 n1 c1, .slice p2 n2 c2], .int .i64 left] w fun e w' => e = .returned (.int .i64 (lessD left (nlT x : Nat))) ∧ Ext w w' := by
  have ht : Hid (∀ L : Int, L = left - (nlT x : Nat) → 0 ≤ L → L = lessD left (nlT x : Nat)) := fun L h1 h2 => by rw [lessD, if_neg (by omega)]; exact h1
  have hf : Hid (left < (nlT x : Nat) → (-1 : Int) = lessD left (nlT x : Nat)) := fun h => by rw [lessD, if_pos h]
  go_enter Tryz.func12, Tryz.ntmps12
  go_upto_region 1 with (fail)
  generalize hW : World.alloc _ _ = W0
  obtain ⟨E0, z0, b0⟩ := boxes1 hW
  clear hW z0
  replace b0 := hid (show Blk W0 w.heap.size [_, _, _] _ from b0)
  have g0 := b0.out.cells
  have l0 := b0.out.lt
  have E := Ext.refl W0
  obtain ⟨L0, hL0⟩ : ∃ L : Int, L = left := ⟨_, rfl⟩
  rw [← hL0]
  replace hL0 := hid hL0
  have a0 : 0 ≤ L0 := by have := hL0.out; omega
  have b00 : L0 ≤ 1048576 := by have := hL0.out; omega
  clear h0 h1
  have hcall := hid (szDeviceSD_any p1 n1 c1 base x.devs L0 W0 (s1.ext DvR.ok (E0.trans E)) hn1 a0 b00 hi1)
  by_cases k0 : L0 < (x.devs.length + sumD dvT x.devs : Nat)
  · have hv : Hid (lessD L0 (x.devs.length + sumD dvT x.devs : Nat) = -1) := by show _ = _; rw [lessD, if_pos k0]
    rw [hv.out] at hcall
    go_wp2_with fail
    refine hcall.out.mono ?_
    rintro e w1 ⟨rfl, E1⟩
    go_wp2_with fail
    go_ret
    exact ⟨ret_int (hf.out (by have := hL0.out; unfold nlT dvsT posT at *; omega)), E0.trans (E.trans E1)⟩
  · have hv : Hid (lessD L0 (x.devs.length + sumD dvT x.devs : Nat) = L0 - (x.devs.length + sumD dvT x.devs : Nat)) := by show _ = _; rw [lessD, if_neg k0]
    rw [hv.out] at hcall
    obtain ⟨L1, hL1⟩ : ∃ L : Int, L = L0 - (x.devs.length + sumD dvT x.devs : Nat) := ⟨_, rfl⟩
    rw [← hL1] at hcall
    have a1 : 0 ≤ L1 := by omega
    have b10 : L1 ≤ 1048576 := by omega
    replace hL1 := hid hL1
    replace k0 := hid k0
    go_wp2_with fail
    refine hcall.out.mono ?_
    rintro e w1 ⟨rfl, E1⟩
    clear hcall
    replace E := E.trans E1
    clear g0 l0 E1
    have g0 := (b0.out.ext E).cells
    have l0 := (b0.out.ext E).lt
    have hcall := hid (szPortSD_any p2 n2 c2 base x.ports L1 w1 (s2.ext okPort (E0.trans E)) hn2 a1 b10 hi2)
    by_cases k1 : L1 < (x.ports.length + sumD poT x.ports : Nat)
    · have hv : Hid (lessD L1 (x.ports.length + sumD poT x.ports : Nat) = -1) := by show _ = _; rw [lessD, if_pos k1]
      rw [hv.out] at hcall
      go_wp2_with fail
      refine hcall.out.mono ?_
      rintro e w2 ⟨rfl, E2⟩
      go_wp2_with fail
      go_ret
      exact ⟨ret_int (hf.out (by have := hL0.out; have := hL1.out; unfold nlT dvsT posT at *; omega)), E0.trans (E.trans E2)⟩
    · have hv : Hid (lessD L1 (x.ports.length + sumD poT x.ports : Nat) = L1 - (x.ports.length + sumD poT x.ports : Nat)) := by show _ = _; rw [lessD, if_neg k1]
      rw [hv.out] at hcall
      obtain ⟨L2, hL2⟩ : ∃ L : Int, L = L1 - (x.ports.length + sumD poT x.ports : Nat) := ⟨_, rfl⟩
      rw [← hL2] at hcall
      have a2 : 0 ≤ L2 := by omega
      have b20 : L2 ≤ 1048576 := by omega
      replace hL2 := hid hL2
      replace k1 := hid k1
      go_wp2_with fail
      refine hcall.out.mono ?_
      rintro e w2 ⟨rfl, E2⟩
      clear hcall
      replace E := E.trans E2
      clear g0 l0 E2
      have g0 := (b0.out.ext E).cells
      have l0 := (b0.out.ext E).lt
      go_wp2_with fail
      go_ret
      exact ⟨ret_int (ht.out _ (by have := hL0.out; have := hL1.out; have := hL2.out; unfold nlT dvsT posT at *; omega) (by omega)), E0.trans E⟩

set_option maxRecDepth 100000 in
set_option maxHeartbeats 4000000 in
theorem szSessionD_any (x : SeD) (p1 p2 p3 p4 p5 p6 p7 : Option Addr) (n1 c1 n2 c2 n3 c3 n4 c4 n5 c5 n6 c6 n7 c7 base : Nat) (left : Int) (w : World) (h0 : 0 ≤ left) (h1 : left ≤ 1048576) (s1 : SlD CeR 4 base w p1 n1 x.ed.cells) (hn1 : n1 ≤ 9223372036854775807) (hi1 : ∀ y ∈ x.ed.cells, FitCe y) (s2 : SlD (RwD (Fl encEd) 21) 1 base w p2 n2 x.ed.undos) (hn2 : n2 ≤ 9223372036854775807) (hi2 : ∀ y ∈ x.ed.undos, FitEds y) (s3 : SlD (RwD (Fl encEd) 21) 1 base w p3 n3 x.ed.redos) (hn3 : n3 ≤ 9223372036854775807) (hi3 : ∀ y ∈ x.ed.redos, FitEds y) (hx4 : x.rules.length = n4) (hn4 : n4 ≤ 9223372036854775807) (s5 : SlD (Fl encWv) 2 base w p5 n5 x.waivers) (hn5 : n5 ≤ 9223372036854775807) (hi5 : ∀ y ∈ x.waivers, y.s.size ≤ 9223372036854775807) (s6 : SlD DvR 4 base w p6 n6 x.nl.devs) (hn6 : n6 ≤ 9223372036854775807) (hi6 : ∀ y ∈ x.nl.devs, FitDv y) (s7 : SlD (Fl encPo) 2 base w p7 n7 x.nl.ports) (hn7 : n7 ≤ 9223372036854775807) (hi7 : ∀ y ∈ x.nl.ports, y.s.size ≤ 9223372036854775807) :
    Calls Tryz.prog 4 #[.agg #[.slice p1 n1 c1, .slice p2 n2 c2, .slice p3 n3 c3, .slice p4 n4 c4, .slice p5 n5 c5, .int .i64 x.nl.nets, .slice p6 n6 c6, .slice p7 n7 c7], .int .i64 left] w fun e w' => e = .returned (.int .i64 (lessD left (seT x : Nat))) ∧ Ext w w' := by
  have ht : Hid (∀ L : Int, L = left - (seT x : Nat) → 0 ≤ L → L = lessD left (seT x : Nat)) := fun L h1 h2 => by rw [lessD, if_neg (by omega)]; exact h1
  have hf : Hid (left < (seT x : Nat) → (-1 : Int) = lessD left (seT x : Nat)) := fun h => by rw [lessD, if_pos h]
  go_enter Tryz.func4, Tryz.ntmps4
  go_upto_region 1 with (fail)
  generalize hW : World.alloc _ _ = W0
  obtain ⟨E0, z0, b0⟩ := boxes1 hW
  clear hW z0
  replace b0 := hid (show Blk W0 w.heap.size [_, _, _, _, _, _, _, _] _ from b0)
  have g0 := b0.out.cells
  have l0 := b0.out.lt
  have E := Ext.refl W0
  obtain ⟨L0, hL0⟩ : ∃ L : Int, L = left := ⟨_, rfl⟩
  rw [← hL0]
  replace hL0 := hid hL0
  have a0 : 0 ≤ L0 := by have := hL0.out; omega
  have b00 : L0 ≤ 1048576 := by have := hL0.out; omega
  clear h0 h1
  have hcall := hid (szEditorD_any x.ed p1 p2 p3 n1 c1 n2 c2 n3 c3 base L0 W0 a0 b00 (s1.ext CeR.ok (E0.trans E)) hn1 hi1 (s2.ext (RwD.ok okEdit) (E0.trans E)) hn2 hi2 (s3.ext (RwD.ok okEdit) (E0.trans E)) hn3 hi3)
  by_cases k0 : L0 < (etT x.ed : Nat)
  · have hv : Hid (lessD L0 (etT x.ed : Nat) = -1) := by show _ = _; rw [lessD, if_pos k0]
    rw [hv.out] at hcall
    go_wp2_with fail
    refine hcall.out.mono ?_
    rintro e w1 ⟨rfl, E1⟩
    go_wp2_with fail
    go_ret
    exact ⟨ret_int (hf.out (by have := hL0.out; unfold seT wvsT at *; omega)), E0.trans (E.trans E1)⟩
  · have hv : Hid (lessD L0 (etT x.ed : Nat) = L0 - (etT x.ed : Nat)) := by show _ = _; rw [lessD, if_neg k0]
    rw [hv.out] at hcall
    obtain ⟨L1, hL1⟩ : ∃ L : Int, L = L0 - (etT x.ed : Nat) := ⟨_, rfl⟩
    rw [← hL1] at hcall
    have a1 : 0 ≤ L1 := by omega
    have b10 : L1 ≤ 1048576 := by omega
    replace hL1 := hid hL1
    replace k0 := hid k0
    go_wp2_with fail
    refine hcall.out.mono ?_
    rintro e w1 ⟨rfl, E1⟩
    clear hcall
    replace E := E.trans E1
    clear g0 l0 E1
    have g0 := (b0.out.ext E).cells
    have l0 := (b0.out.ext E).lt
    have hcall := hid (szDeckD_any x.rules p4 n4 c4 L1 w1 a1 b10 hx4 hn4)
    by_cases k1 : L1 < (x.rules.length : Nat)
    · have hv : Hid (lessD L1 (x.rules.length : Nat) = -1) := by show _ = _; rw [lessD, if_pos k1]
      rw [hv.out] at hcall
      go_wp2_with fail
      refine hcall.out.mono ?_
      rintro e w2 ⟨rfl, E2⟩
      go_wp2_with fail
      go_ret
      exact ⟨ret_int (hf.out (by have := hL0.out; have := hL1.out; unfold seT wvsT at *; omega)), E0.trans (E.trans E2)⟩
    · have hv : Hid (lessD L1 (x.rules.length : Nat) = L1 - (x.rules.length : Nat)) := by show _ = _; rw [lessD, if_neg k1]
      rw [hv.out] at hcall
      obtain ⟨L2, hL2⟩ : ∃ L : Int, L = L1 - (x.rules.length : Nat) := ⟨_, rfl⟩
      rw [← hL2] at hcall
      have a2 : 0 ≤ L2 := by omega
      have b20 : L2 ≤ 1048576 := by omega
      replace hL2 := hid hL2
      replace k1 := hid k1
      go_wp2_with fail
      refine hcall.out.mono ?_
      rintro e w2 ⟨rfl, E2⟩
      clear hcall
      replace E := E.trans E2
      clear g0 l0 E2
      have g0 := (b0.out.ext E).cells
      have l0 := (b0.out.ext E).lt
      have hcall := hid (szWaiverSD_any p5 n5 c5 base x.waivers L2 w2 (s5.ext okWaiver (E0.trans E)) hn5 a2 b20 hi5)
      by_cases k2 : L2 < (x.waivers.length + sumD wvT x.waivers : Nat)
      · have hv : Hid (lessD L2 (x.waivers.length + sumD wvT x.waivers : Nat) = -1) := by show _ = _; rw [lessD, if_pos k2]
        rw [hv.out] at hcall
        go_wp2_with fail
        refine hcall.out.mono ?_
        rintro e w3 ⟨rfl, E3⟩
        go_wp2_with fail
        go_ret
        exact ⟨ret_int (hf.out (by have := hL0.out; have := hL1.out; have := hL2.out; unfold seT wvsT at *; omega)), E0.trans (E.trans E3)⟩
      · have hv : Hid (lessD L2 (x.waivers.length + sumD wvT x.waivers : Nat) = L2 - (x.waivers.length + sumD wvT x.waivers : Nat)) := by show _ = _; rw [lessD, if_neg k2]
        rw [hv.out] at hcall
        obtain ⟨L3, hL3⟩ : ∃ L : Int, L = L2 - (x.waivers.length + sumD wvT x.waivers : Nat) := ⟨_, rfl⟩
        rw [← hL3] at hcall
        have a3 : 0 ≤ L3 := by omega
        have b30 : L3 ≤ 1048576 := by omega
        replace hL3 := hid hL3
        replace k2 := hid k2
        go_wp2_with fail
        refine hcall.out.mono ?_
        rintro e w3 ⟨rfl, E3⟩
        clear hcall
        replace E := E.trans E3
        clear g0 l0 E3
        have g0 := (b0.out.ext E).cells
        have l0 := (b0.out.ext E).lt
        have hcall := hid (szNetlistD_any x.nl p6 p7 n6 c6 n7 c7 base L3 w3 a3 b30 (s6.ext DvR.ok (E0.trans E)) hn6 hi6 (s7.ext okPort (E0.trans E)) hn7 hi7)
        by_cases k3 : L3 < (nlT x.nl : Nat)
        · have hv : Hid (lessD L3 (nlT x.nl : Nat) = -1) := by show _ = _; rw [lessD, if_pos k3]
          rw [hv.out] at hcall
          go_wp2_with fail
          refine hcall.out.mono ?_
          rintro e w4 ⟨rfl, E4⟩
          go_wp2_with fail
          go_ret
          exact ⟨ret_int (hf.out (by have := hL0.out; have := hL1.out; have := hL2.out; have := hL3.out; unfold seT wvsT at *; omega)), E0.trans (E.trans E4)⟩
        · have hv : Hid (lessD L3 (nlT x.nl : Nat) = L3 - (nlT x.nl : Nat)) := by show _ = _; rw [lessD, if_neg k3]
          rw [hv.out] at hcall
          obtain ⟨L4, hL4⟩ : ∃ L : Int, L = L3 - (nlT x.nl : Nat) := ⟨_, rfl⟩
          rw [← hL4] at hcall
          have a4 : 0 ≤ L4 := by omega
          have b40 : L4 ≤ 1048576 := by omega
          replace hL4 := hid hL4
          replace k3 := hid k3
          go_wp2_with fail
          refine hcall.out.mono ?_
          rintro e w4 ⟨rfl, E4⟩
          clear hcall
          replace E := E.trans E4
          clear g0 l0 E4
          have g0 := (b0.out.ext E).cells
          have l0 := (b0.out.ext E).lt
          go_wp2_with fail
          go_ret
          exact ⟨ret_int (ht.out _ (by have := hL0.out; have := hL1.out; have := hL2.out; have := hL3.out; have := hL4.out; unfold seT wvsT at *; omega) (by omega)), E0.trans E⟩

end Go.Proofs.YtajlkanocngdfaaGreat
