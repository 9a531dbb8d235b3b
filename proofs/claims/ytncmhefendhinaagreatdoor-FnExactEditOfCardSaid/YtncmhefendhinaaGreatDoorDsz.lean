/- Contracts of szX at sessions: what is left of a budget. Condition: a budget of at most 2^20, lengths that fit. -/
import Derived.Test.YtncmhefendhinaaGreatDoorDss
namespace Go.Proofs.YtncmhefendhinaaGreatDoor
open Go.RowKit

/-- What is left of a budget. -/
def lessD (left tot : Int) : Int := if left < tot then -1 else left - tot
def Fit (n : Nat) : Prop := n ≤ 9223372036854775807
def sumD {α : Type} (f : α → Nat) (l : List α) : Nat := (l.map f).sum
theorem sumD_take {α : Type} {f : α → Nat} {l : List α} {k : Nat} {x : α} (h : l[k]? = some x) : sumD f (l.take (k + 1)) = sumD f (l.take k) + f x := by
  rw [sumD, take_snoc h, List.map_append, List.sum_append, sumD]; simp
theorem sumD_le {α : Type} (f : α → Nat) (l : List α) (k : Nat) : sumD f (l.take k) ≤ sumD f l := by
  have h := List.take_append_drop k l
  have : sumD f l = sumD f (l.take k) + sumD f (l.drop k) := by
    rw [sumD, sumD, sumD, ← List.sum_append, ← List.map_append, h]
  omega
def lbT (x : LbD) : Nat := x.s.size
def wvT (x : WvD) : Nat := x.s.size
def poT (x : PoD) : Nat := x.s.size
def edT (x : EdD) : Nat := x.s.size + lbT x.lb
def edsT (l : List EdD) : Nat := l.length + sumD edT l
def dvT (x : DvD) : Nat := x.pins.length
def lbsT (l : List LbD) : Nat := l.length + sumD lbT l
def ceT (x : CeD) : Nat := x.s.size + (x.shs.length + (lbsT x.lbs + x.ins.length))

set_option maxRecDepth 100000 in
set_option maxHeartbeats 4000000 in
theorem szLabelD_any (x : LbD) (left : Int) (w : World) (h0 : 0 ≤ left) (h1 : left ≤ 1048576) (hs : x.s.size ≤ 9223372036854775807) :
    Calls Tryz.prog 71 #[.agg #[.int .i64 x.a, .int .i64 x.pt.a, .int .i64 x.pt.b, .string x.s], .int .i64 left] w fun e w' => e = .returned (.int .i64 (lessD left (lbT x : Nat))) ∧ Ext w w' := by
  by_cases h : left < x.s.size
  · have hr : Hid (-1 = lessD left (lbT x : Nat)) := by show _ = _; rw [lessD, lbT, if_pos h]
    go_enter Tryz.func71, Tryz.ntmps71
    go_wp2
    go_ret
    refine ⟨ret_int hr.out, ?_⟩
    repeat (first | exact Ext.refl _ | refine Ext.alloc ?_ _)
  · have hr : Hid (left - x.s.size = lessD left (lbT x : Nat)) := by show _ = _; rw [lessD, lbT, if_neg h]
    go_enter Tryz.func71, Tryz.ntmps71
    go_wp2
    go_ret
    refine ⟨ret_int hr.out, ?_⟩
    repeat (first | exact Ext.refl _ | refine Ext.alloc ?_ _)

set_option maxRecDepth 100000 in
set_option maxHeartbeats 4000000 in
theorem szLabelSD_any (p : Option Addr) (n c base : Nat) (l : List LbD) (left : Int) (w : World) (h : SlD (Fl encLb) 4 base w p n l) (hn : n ≤ 9223372036854775807) (h0 : 0 ≤ left) (h1 : left ≤ 1048576) (hin : ∀ x ∈ l, x.s.size ≤ 9223372036854775807) :
    Calls Tryz.prog 39 #[.slice p n c, .int .i64 left] w fun e w' => e = .returned (.int .i64 (lessD left (l.length + sumD lbT l : Nat))) ∧ Ext w w' := by
  have hl := hid h.length
  replace hin := hid hin
  by_cases hln : left < n
  · have hr : Hid (-1 = lessD left (l.length + sumD lbT l : Nat)) := by show _ = _; rw [lessD, hl.out, if_pos (by omega)]
    go_enter Tryz.func39, Tryz.ntmps39
    go_wp2
    go_ret
    exact ⟨ret_int hr.out, Ext.refl _⟩
  · go_enter Tryz.func39, Tryz.ntmps39
    go_wp2
    go_loopw [1, 5] (fun lv i wr => ∃ (k : Nat) (L : Int), k ≤ n ∧ i = .int .i64 k ∧ lv = .int .i64 L ∧ Hid (L = left - n - sumD lbT (l.take k)) ∧ 0 ≤ L ∧ L ≤ 1048576 ∧ Ext w wr) (fun _ i _ => n - (intOf i).toNat)
    case atStart => exact ⟨0, left - n, by omega, rfl, rfl, by show _ = _; simp [sumD], by omega, by omega, Ext.refl _⟩
    case round =>
      obtain ⟨k, L, hk, rfl, rfl, hL, hL0, hL1, hE⟩ := hrel
      by_cases hlt : k < n
      · have hltI : (k : Int) < n := by omega
        obtain ⟨b, off, x, cs, rfl, hb, hx, hcs, hc⟩ := (h.ext okLabel hE).get hlt
        have hm := hid (hin.out x (List.mem_of_getElem? hx.out))
        have hst := hid (sumD_take (f := lbT) hx.out)
        have hle := hid (sumD_le lbT l (k + 1))
        obtain rfl : cs = encLb x := hcs
        have y0 := hc 0 _ rfl
        rw [Nat.add_zero] at y0
        have y1 := hc 1 _ rfl
        have y2 := hc 2 _ rfl
        have y3 := hc 3 _ rfl
        clear hc
        have hcall := hid (szLabelD_any x L wr hL0 hL1 hm.out)
        by_cases hlx : L < (lbT x : Nat)
        · have hr : Hid (-1 = lessD left (l.length + sumD lbT l : Nat)) := by
            show _ = _
            have := hst.out; have := hle.out; have := hL.out
            rw [lessD, hl.out, if_pos (by omega)]
          have hv : Hid (lessD L (lbT x : Nat) = -1) := by show _ = _; rw [lessD, if_pos hlx]
          rw [hv.out] at hcall
          go_wp2_with fail
          refine hcall.out.mono ?_
          rintro e w2 ⟨rfl, h2⟩
          go_wp2_with fail
          go_ret
          exact ⟨ret_int hr.out, hE.trans h2⟩
        · have hv : Hid (lessD L (lbT x : Nat) = L - (lbT x : Nat)) := by show _ = _; rw [lessD, if_neg hlx]
          rw [hv.out] at hcall
          obtain ⟨L2, hL2⟩ : ∃ L2 : Int, L2 = L - (lbT x : Nat) := ⟨_, rfl⟩
          rw [← hL2] at hcall
          have hb0 : 0 ≤ L2 := by omega
          have hb1 : L2 ≤ 1048576 := by omega
          replace hL2 := hid hL2
          go_wp2_with fail
          refine hcall.out.mono ?_
          rintro e w2 ⟨rfl, h2⟩
          go_wp2_with fail
          go_roundw
          case rel => exact ⟨k + 1, L2, by omega, by go_num, rfl, by show _ = _; rw [hL2.out, hL.out, hst.out]; omega, hb0, hb1, hE.trans h2⟩
          case measure => simp [intOf]; omega
      · obtain rfl : k = n := by omega
        have hr : Hid (L = lessD left (l.length + sumD lbT l : Nat)) := by
          show _ = _
          have := hL.out
          rw [take_all hl.out (Nat.le_refl _)] at this
          rw [lessD, hl.out, if_neg (by omega)]; omega
        go_wp2_with fail
        go_ret
        exact ⟨ret_int hr.out, hE⟩

set_option maxRecDepth 100000 in
set_option maxHeartbeats 4000000 in
theorem szShapeSD_any (p : Option Addr) (n c : Nat) (left : Int) (w : World) (h0 : 0 ≤ left) (h1 : left ≤ 1048576) (hm : n ≤ 9223372036854775807) :
    Calls Tryz.prog 38 #[.slice p n c, .int .i64 left] w fun e w' => e = .returned (.int .i64 (lessD left (n : Nat))) ∧ Ext w w' := by
  by_cases h : left < n
  · have hr : Hid (-1 = lessD left (n : Nat)) := by show _ = _; rw [lessD, if_pos h]
    go_enter Tryz.func38, Tryz.ntmps38
    go_wp2
    go_ret
    exact ⟨ret_int hr.out, Ext.refl _⟩
  · have hr : Hid (left - n = lessD left (n : Nat)) := by show _ = _; rw [lessD, if_neg h]
    go_enter Tryz.func38, Tryz.ntmps38
    go_wp2
    go_ret
    exact ⟨ret_int hr.out, Ext.refl _⟩

set_option maxRecDepth 100000 in
set_option maxHeartbeats 4000000 in
theorem szInstanceSD_any (p : Option Addr) (n c : Nat) (left : Int) (w : World) (h0 : 0 ≤ left) (h1 : left ≤ 1048576) (hm : n ≤ 9223372036854775807) :
    Calls Tryz.prog 40 #[.slice p n c, .int .i64 left] w fun e w' => e = .returned (.int .i64 (lessD left (n : Nat))) ∧ Ext w w' := by
  by_cases h : left < n
  · have hr : Hid (-1 = lessD left (n : Nat)) := by show _ = _; rw [lessD, if_pos h]
    go_enter Tryz.func40, Tryz.ntmps40
    go_wp2
    go_ret
    exact ⟨ret_int hr.out, Ext.refl _⟩
  · have hr : Hid (left - n = lessD left (n : Nat)) := by show _ = _; rw [lessD, if_neg h]
    go_enter Tryz.func40, Tryz.ntmps40
    go_wp2
    go_ret
    exact ⟨ret_int hr.out, Ext.refl _⟩

set_option maxRecDepth 100000 in
set_option maxHeartbeats 4000000 in
theorem szCellD_any (x : CeD) (p1 p2 p3 : Option Addr) (n1 c1 n2 c2 n3 c3 base : Nat) (left : Int) (w : World) (h0 : 0 ≤ left) (h1 : left ≤ 1048576) (hs1 : x.s.size ≤ 9223372036854775807) (hx1 : x.shs.length = n1) (hn1 : n1 ≤ 9223372036854775807) (s2 : SlD (Fl encLb) 4 base w p2 n2 x.lbs) (hn2 : n2 ≤ 9223372036854775807) (hin : ∀ y ∈ x.lbs, y.s.size ≤ 9223372036854775807) (hx3 : x.ins.length = n3) (hn3 : n3 ≤ 9223372036854775807) :
    Calls Tryz.prog 22 #[.agg #[.string x.s, .slice p1 n1 c1, .slice p2 n2 c2, .slice p3 n3 c3], .int .i64 left] w fun e w' => e = .returned (.int .i64 (lessD left (ceT x : Nat))) ∧ Ext w w' := by
  have ht : Hid (∀ L : Int, L = left - (ceT x : Nat) → 0 ≤ L → L = lessD left (ceT x : Nat)) := fun L h1 h2 => by rw [lessD, if_neg (by omega)]; exact h1
  have hf : Hid (left < (ceT x : Nat) → (-1 : Int) = lessD left (ceT x : Nat)) := fun h => by rw [lessD, if_pos h]
  go_enter Tryz.func22, Tryz.ntmps22
  go_upto_region 1 with (fail)
  generalize hW : World.alloc _ _ = W0
  obtain ⟨E0, z0, b0⟩ := boxes1 hW
  clear hW z0
  replace b0 := hid (show Blk W0 w.heap.size [_, _, _, _] _ from b0)
  have g0 := b0.out.cells
  have l0 := b0.out.lt
  have E := Ext.refl W0
  obtain ⟨L0, hL0⟩ : ∃ L : Int, L = left := ⟨_, rfl⟩
  rw [← hL0]
  replace hL0 := hid hL0
  have a0 : 0 ≤ L0 := by have := hL0.out; omega
  have b00 : L0 ≤ 1048576 := by have := hL0.out; omega
  clear h0 h1
  by_cases k0 : L0 < (x.s.size : Nat)
  · go_wp2_with fail
    go_ret
    exact ⟨ret_int (hf.out (by have := hL0.out; unfold ceT lbsT at *; omega)), E0.trans E⟩
  · have a1 : 0 ≤ L0 - (x.s.size : Nat) := by omega
    have b10 : L0 - (x.s.size : Nat) ≤ 1048576 := by omega
    have hcall := hid (szShapeSD_any p1 n1 c1 (L0 - (x.s.size : Nat)) W0 a1 b10 hn1)
    by_cases k1 : (L0 - (x.s.size : Nat)) < (n1 : Nat)
    · have hv : Hid (lessD (L0 - (x.s.size : Nat)) (n1 : Nat) = -1) := by show _ = _; rw [lessD, if_pos k1]
      rw [hv.out] at hcall
      go_wp2_with fail
      refine hcall.out.mono ?_
      rintro e w2 ⟨rfl, E2⟩
      go_wp2_with fail
      go_ret
      exact ⟨ret_int (hf.out (by have := hL0.out; unfold ceT lbsT at *; omega)), E0.trans (E.trans E2)⟩
    · have hv : Hid (lessD (L0 - (x.s.size : Nat)) (n1 : Nat) = (L0 - (x.s.size : Nat)) - (n1 : Nat)) := by show _ = _; rw [lessD, if_neg k1]
      rw [hv.out] at hcall
      obtain ⟨L2, hL2⟩ : ∃ L : Int, L = (L0 - (x.s.size : Nat)) - (n1 : Nat) := ⟨_, rfl⟩
      rw [← hL2] at hcall
      have a2 : 0 ≤ L2 := by omega
      have b20 : L2 ≤ 1048576 := by omega
      replace hL2 := hid hL2
      replace k1 := hid k1
      go_wp2_with fail
      refine hcall.out.mono ?_
      rintro e w2 ⟨rfl, E2⟩
      clear hcall
      replace E := E.trans E2
      clear g0 l0 E2
      have g0 := (b0.out.ext E).cells
      have l0 := (b0.out.ext E).lt
      have hcall := hid (szLabelSD_any p2 n2 c2 base x.lbs L2 w2 (s2.ext okLabel (E0.trans E)) hn2 a2 b20 hin)
      by_cases k2 : L2 < (x.lbs.length + sumD lbT x.lbs : Nat)
      · have hv : Hid (lessD L2 (x.lbs.length + sumD lbT x.lbs : Nat) = -1) := by show _ = _; rw [lessD, if_pos k2]
        rw [hv.out] at hcall
        go_wp2_with fail
        refine hcall.out.mono ?_
        rintro e w3 ⟨rfl, E3⟩
        go_wp2_with fail
        go_ret
        exact ⟨ret_int (hf.out (by have := hL0.out; have := hL2.out; unfold ceT lbsT at *; omega)), E0.trans (E.trans E3)⟩
      · have hv : Hid (lessD L2 (x.lbs.length + sumD lbT x.lbs : Nat) = L2 - (x.lbs.length + sumD lbT x.lbs : Nat)) := by show _ = _; rw [lessD, if_neg k2]
        rw [hv.out] at hcall
        obtain ⟨L3, hL3⟩ : ∃ L : Int, L = L2 - (x.lbs.length + sumD lbT x.lbs : Nat) := ⟨_, rfl⟩
        rw [← hL3] at hcall
        have a3 : 0 ≤ L3 := by omega
        have b30 : L3 ≤ 1048576 := by omega
        replace hL3 := hid hL3
        replace k2 := hid k2
        go_wp2_with fail
        refine hcall.out.mono ?_
        rintro e w3 ⟨rfl, E3⟩
        clear hcall
        replace E := E.trans E3
        clear g0 l0 E3
        have g0 := (b0.out.ext E).cells
        have l0 := (b0.out.ext E).lt
        have hcall := hid (szInstanceSD_any p3 n3 c3 L3 w3 a3 b30 hn3)
        by_cases k3 : L3 < (n3 : Nat)
        · have hv : Hid (lessD L3 (n3 : Nat) = -1) := by show _ = _; rw [lessD, if_pos k3]
          rw [hv.out] at hcall
          go_wp2_with fail
          refine hcall.out.mono ?_
          rintro e w4 ⟨rfl, E4⟩
          go_wp2_with fail
          go_ret
          exact ⟨ret_int (hf.out (by have := hL0.out; have := hL2.out; have := hL3.out; unfold ceT lbsT at *; omega)), E0.trans (E.trans E4)⟩
        · have hv : Hid (lessD L3 (n3 : Nat) = L3 - (n3 : Nat)) := by show _ = _; rw [lessD, if_neg k3]
          rw [hv.out] at hcall
          obtain ⟨L4, hL4⟩ : ∃ L : Int, L = L3 - (n3 : Nat) := ⟨_, rfl⟩
          rw [← hL4] at hcall
          have a4 : 0 ≤ L4 := by omega
          have b40 : L4 ≤ 1048576 := by omega
          replace hL4 := hid hL4
          replace k3 := hid k3
          go_wp2_with fail
          refine hcall.out.mono ?_
          rintro e w4 ⟨rfl, E4⟩
          clear hcall
          replace E := E.trans E4
          clear g0 l0 E4
          have g0 := (b0.out.ext E).cells
          have l0 := (b0.out.ext E).lt
          go_wp2_with fail
          go_ret
          exact ⟨ret_int (ht.out _ (by have := hL0.out; have := hL2.out; have := hL3.out; have := hL4.out; unfold ceT lbsT at *; omega) (by omega)), E0.trans E⟩


def dvsT (l : List DvD) : Nat := l.length + sumD dvT l
def cesT (l : List CeD) : Nat := l.length + sumD ceT l
def edssT (l : List (List EdD)) : Nat := l.length + sumD edsT l
def wvsT (l : List WvD) : Nat := l.length + sumD wvT l
def posT (l : List PoD) : Nat := l.length + sumD poT l
def nlT (x : NlD) : Nat := dvsT x.devs + posT x.ports
def etT (x : EtD) : Nat := cesT x.cells + (edssT x.undos + edssT x.redos)
def seT (x : SeD) : Nat := etT x.ed + (x.rules.length + (wvsT x.waivers + nlT x.nl))
def FitDv (x : DvD) : Prop := x.pins.length ≤ 9223372036854775807
def FitEd (x : EdD) : Prop := x.s.size ≤ 9223372036854775807 ∧ x.lb.s.size ≤ 9223372036854775807
def FitEds (l : List EdD) : Prop := l.length ≤ 9223372036854775807 ∧ ∀ x ∈ l, FitEd x
def FitCe (x : CeD) : Prop := x.s.size ≤ 9223372036854775807 ∧ x.shs.length ≤ 9223372036854775807 ∧ x.lbs.length ≤ 9223372036854775807 ∧ (∀ y ∈ x.lbs, y.s.size ≤ 9223372036854775807) ∧ x.ins.length ≤ 9223372036854775807
def FitEt (x : EtD) : Prop := x.cells.length ≤ 9223372036854775807 ∧ (∀ y ∈ x.cells, FitCe y) ∧ x.undos.length ≤ 9223372036854775807 ∧ (∀ y ∈ x.undos, FitEds y) ∧ x.redos.length ≤ 9223372036854775807 ∧ ∀ y ∈ x.redos, FitEds y
def FitNl (x : NlD) : Prop := x.devs.length ≤ 9223372036854775807 ∧ (∀ y ∈ x.devs, FitDv y) ∧ x.ports.length ≤ 9223372036854775807 ∧ ∀ y ∈ x.ports, y.s.size ≤ 9223372036854775807
def FitSe (x : SeD) : Prop := FitEt x.ed ∧ x.rules.length ≤ 9223372036854775807 ∧ (x.waivers.length ≤ 9223372036854775807 ∧ ∀ y ∈ x.waivers, y.s.size ≤ 9223372036854775807) ∧ FitNl x.nl

set_option maxRecDepth 100000 in
set_option maxHeartbeats 4000000 in
theorem szCellSD_any (p : Option Addr) (n c base : Nat) (l : List CeD) (left : Int) (w : World) (h : SlD CeR 4 base w p n l) (hn : n ≤ 9223372036854775807) (h0 : 0 ≤ left) (h1 : left ≤ 1048576) (hin : ∀ x ∈ l, FitCe x) :
    Calls Tryz.prog 10 #[.slice p n c, .int .i64 left] w fun e w' => e = .returned (.int .i64 (lessD left (l.length + sumD ceT l : Nat))) ∧ Ext w w' := by
  have hl := hid h.length
  replace hin := hid hin
  by_cases hln : left < n
  · have hr : Hid (-1 = lessD left (l.length + sumD ceT l : Nat)) := by show _ = _; rw [lessD, hl.out, if_pos (by omega)]
    go_enter Tryz.func10, Tryz.ntmps10
    go_wp2
    go_ret
    exact ⟨ret_int hr.out, Ext.refl _⟩
  · go_enter Tryz.func10, Tryz.ntmps10
    go_wp2
    go_loopw [1, 5] (fun lv i wr => ∃ (k : Nat) (L : Int), k ≤ n ∧ i = .int .i64 k ∧ lv = .int .i64 L ∧ Hid (L = left - n - sumD ceT (l.take k)) ∧ 0 ≤ L ∧ L ≤ 1048576 ∧ Ext w wr) (fun _ i _ => n - (intOf i).toNat)
    case atStart => exact ⟨0, left - n, by omega, rfl, rfl, by show _ = _; simp [sumD], by omega, by omega, Ext.refl _⟩
    case round =>
      obtain ⟨k, L, hk, rfl, rfl, hL, hL0, hL1, hE⟩ := hrel
      by_cases hlt : k < n
      · have hltI : (k : Int) < n := by omega
        obtain ⟨b, off, x, cs, rfl, hb, hx, hcs, hc⟩ := (h.ext CeR.ok hE).get hlt
        have hm := hid (hin.out x (List.mem_of_getElem? hx.out))
        have hst := hid (sumD_take (f := ceT) hx.out)
        have hle := hid (sumD_le ceT l (k + 1))
        obtain ⟨p1, n1, c1, p2, n2, c2, p3, n3, c3, rfl, s1, s2, s3⟩ := hcs
        have y0 := hc 0 _ rfl
        rw [Nat.add_zero] at y0
        have y1 := hc 1 _ rfl
        have y2 := hc 2 _ rfl
        have y3 := hc 3 _ rfl
        clear hc
        have hcall := hid (szCellD_any x p1 p2 p3 n1 c1 n2 c2 n3 c3 base L wr hL0 hL1 hm.out.1 s1.length (by have := s1.length; have := hm.out.2.1; omega) s2 (by have := s2.length; have := hm.out.2.2.1; omega) hm.out.2.2.2.1 s3.length (by have := s3.length; have := hm.out.2.2.2.2; omega))
        by_cases hlx : L < (ceT x : Nat)
        · have hr : Hid (-1 = lessD left (l.length + sumD ceT l : Nat)) := by
            show _ = _
            have := hst.out; have := hle.out; have := hL.out
            rw [lessD, hl.out, if_pos (by omega)]
          have hv : Hid (lessD L (ceT x : Nat) = -1) := by show _ = _; rw [lessD, if_pos hlx]
          rw [hv.out] at hcall
          go_wp2_with fail
          refine hcall.out.mono ?_
          rintro e w2 ⟨rfl, h2⟩
          go_wp2_with fail
          go_ret
          exact ⟨ret_int hr.out, hE.trans h2⟩
        · have hv : Hid (lessD L (ceT x : Nat) = L - (ceT x : Nat)) := by show _ = _; rw [lessD, if_neg hlx]
          rw [hv.out] at hcall
          obtain ⟨L2, hL2⟩ : ∃ L2 : Int, L2 = L - (ceT x : Nat) := ⟨_, rfl⟩
          rw [← hL2] at hcall
          have hb0 : 0 ≤ L2 := by omega
          have hb1 : L2 ≤ 1048576 := by omega
          replace hL2 := hid hL2
          go_wp2_with fail
          refine hcall.out.mono ?_
          rintro e w2 ⟨rfl, h2⟩
          go_wp2_with fail
          go_roundw
          case rel => exact ⟨k + 1, L2, by omega, by go_num, rfl, by show _ = _; rw [hL2.out, hL.out, hst.out]; omega, hb0, hb1, hE.trans h2⟩
          case measure => simp [intOf]; omega
      · obtain rfl : k = n := by omega
        have hr : Hid (L = lessD left (l.length + sumD ceT l : Nat)) := by
          show _ = _
          have := hL.out
          rw [take_all hl.out (Nat.le_refl _)] at this
          rw [lessD, hl.out, if_neg (by omega)]; omega
        go_wp2_with fail
        go_ret
        exact ⟨ret_int hr.out, hE⟩

set_option maxRecDepth 100000 in
set_option maxHeartbeats 4000000 in
theorem szLibraryD_any (l : List CeD) (p1 : Option Addr) (n1 c1 base : Nat) (left : Int) (w : World) (h0 : 0 ≤ left) (h1 : left ≤ 1048576) (s1 : SlD CeR 4 base w p1 n1 l) (hn1 : n1 ≤ 9223372036854775807) (hi1 : ∀ y ∈ l, FitCe y) :
    Calls Tryz.prog 4 #[.agg #[.slice p1 n1 c1], .int .i64 left] w fun e w' => e = .returned (.int .i64 (lessD left (cesT l : Nat))) ∧ Ext w w' := by
  have ht : Hid (∀ L : Int, L = left - (cesT l : Nat) → 0 ≤ L → L = lessD left (cesT l : Nat)) := fun L h1 h2 => by rw [lessD, if_neg (by omega)]; exact h1
  have hf : Hid (left < (cesT l : Nat) → (-1 : Int) = lessD left (cesT l : Nat)) := fun h => by rw [lessD, if_pos h]
  go_enter Tryz.func4, Tryz.ntmps4
  go_upto_region 1 with (fail)
  generalize hW : World.alloc _ _ = W0
  obtain ⟨E0, z0, b0⟩ := boxes1 hW
  clear hW z0
  replace b0 := hid (show Blk W0 w.heap.size [_] _ from b0)
  have g0 := b0.out.cells
  have l0 := b0.out.lt
  have E := Ext.refl W0
  obtain ⟨L0, hL0⟩ : ∃ L : Int, L = left := ⟨_, rfl⟩
  rw [← hL0]
  replace hL0 := hid hL0
  have a0 : 0 ≤ L0 := by have := hL0.out; omega
  have b00 : L0 ≤ 1048576 := by have := hL0.out; omega
  clear h0 h1
  have hcall := hid (szCellSD_any p1 n1 c1 base l L0 W0 (s1.ext CeR.ok (E0.trans E)) hn1 a0 b00 hi1)
  by_cases k0 : L0 < (l.length + sumD ceT l : Nat)
  · have hv : Hid (lessD L0 (l.length + sumD ceT l : Nat) = -1) := by show _ = _; rw [lessD, if_pos k0]
    rw [hv.out] at hcall
    go_wp2_with fail
    refine hcall.out.mono ?_
    rintro e w1 ⟨rfl, E1⟩
    go_wp2_with fail
    go_ret
    exact ⟨ret_int (hf.out (by have := hL0.out; unfold cesT at *; omega)), E0.trans (E.trans E1)⟩
  · have hv : Hid (lessD L0 (l.length + sumD ceT l : Nat) = L0 - (l.length + sumD ceT l : Nat)) := by show _ = _; rw [lessD, if_neg k0]
    rw [hv.out] at hcall
    obtain ⟨L1, hL1⟩ : ∃ L : Int, L = L0 - (l.length + sumD ceT l : Nat) := ⟨_, rfl⟩
    rw [← hL1] at hcall
    have a1 : 0 ≤ L1 := by omega
    have b10 : L1 ≤ 1048576 := by omega
    replace hL1 := hid hL1
    replace k0 := hid k0
    go_wp2_with fail
    refine hcall.out.mono ?_
    rintro e w1 ⟨rfl, E1⟩
    clear hcall
    replace E := E.trans E1
    clear g0 l0 E1
    have g0 := (b0.out.ext E).cells
    have l0 := (b0.out.ext E).lt
    go_wp2_with fail
    go_ret
    exact ⟨ret_int (ht.out _ (by have := hL0.out; have := hL1.out; unfold cesT at *; omega) (by omega)), E0.trans E⟩

end Go.Proofs.YtncmhefendhinaaGreatDoor
