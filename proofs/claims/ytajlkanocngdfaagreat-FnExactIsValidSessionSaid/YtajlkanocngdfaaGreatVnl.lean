/- Validity of netlists, program and reference. Condition: lengths that fit. -/
import Derived.Test.YtajlkanocngdfaaGreatVgd
namespace Go.Proofs.YtajlkanocngdfaaGreat
open Go.RowKit Go.PlainAid

/-- The port at k is valid and its name is behind that of the port before. -/
def poOk (l : List PoD) (nets : Int) (k : Nat) : Bool := match l[k]? with | some y => nameB y.s && (wit y.a 0 (nets - 1) && (match k with | 0 => true | j + 1 => match l[j]? with | some z => Op.bytesLess z.s.toList y.s.toList | none => true)) | none => true
def nlB (x : NlD) : Bool := wit x.nets 0 24 && (decide (x.devs.length ≤ 24) && (decide (x.ports.length ≤ 8) && (x.devs.all (dvB · x.nets) && (List.range x.ports.length).all (poOk x.ports x.nets))))
theorem poOk_bad {l : List PoD} {nets : Int} {k : Nat} {y : PoD} (hx : l[k]? = some y) (h : nameB y.s = false) : poOk l nets k = false := by
  rw [poOk, hx]; simp only [h]; rfl
theorem poOk_net {l : List PoD} {nets : Int} {k : Nat} {y : PoD} (hx : l[k]? = some y) (h : wit y.a 0 (nets - 1) = false) : poOk l nets k = false := by
  rw [poOk, hx]; simp only [h, Bool.false_and, Bool.and_false]
theorem poOk_0 {l : List PoD} {nets : Int} {y : PoD} (hx : l[0]? = some y) (h : nameB y.s = true) (h2 : wit y.a 0 (nets - 1) = true) : poOk l nets 0 = true := by
  rw [poOk, hx]; simp only [h, h2]; rfl
theorem poOk_less {l : List PoD} {nets : Int} {j : Nat} {y z : PoD} (hx : l[j + 1]? = some y) (hz : l[j]? = some z) (h : Op.bytesLess z.s.toList y.s.toList = false) : poOk l nets (j + 1) = false := by
  rw [poOk, hx]; simp only [hz, h, Bool.and_false]
theorem poOk_s {l : List PoD} {nets : Int} {j : Nat} {y z : PoD} (hx : l[j + 1]? = some y) (hz : l[j]? = some z) (h : nameB y.s = true) (h2 : wit y.a 0 (nets - 1) = true) (h3 : Op.bytesLess z.s.toList y.s.toList = true) : poOk l nets (j + 1) = true := by
  rw [poOk, hx]; simp only [h, h2, hz, h3]; rfl

set_option maxRecDepth 100000 in
set_option maxHeartbeats 4000000 in
theorem vNl1_any (x : DvD) (nets : Int) (p : Option Addr) (n c base B : Nat) (w : World) (s : SlD (Fl enc1) 1 base w p n x.pins) (hn : n ≤ 9223372036854775807) (hnets : 0 ≤ nets ∧ nets ≤ 24) (hB : B < w.heap.size) (hc : w.cell? ⟨B, 0, none⟩ = some (.int .i64 nets)) :
    Calls Tryz.prog 57 #[.agg #[.int .i64 x.a, .slice p n c, .int .i64 x.b, .int .i64 x.c], .pointer (some ⟨B, 0, none⟩)] w fun e w' => e = .returned (.bool (!dvB x nets)) ∧ Ext w w' := by
  obtain ⟨a, pins, b, d⟩ := x
  go_enter Tryz.func57, Tryz.ntmps57
  go_upto_region 1 with (fail)
  generalize hW : World.alloc _ _ = W0
  obtain ⟨E0, z0, b0⟩ := boxes1 hW
  clear hW z0
  replace b0 := hid (show Blk W0 (w.heap.size) [_, _, _, _] _ from b0)
  have g0 := b0.out.cells
  have l0 := b0.out.lt
  have E := Ext.refl W0
  have hc0 := (E0.cells B _ hB).trans hc
  have hB0 : B < W0.heap.size := Nat.lt_of_lt_of_le hB E0.le
  go_wp2_with (first | (go_at_call 58; refine (pDevice_any a b d nets pins p n c base _ ((s.ext okInt E0).ext okInt E) hn hnets).mono ?_; rintro e w3 ⟨rfl, E3⟩; replace E := E.trans E3; clear g0 l0 E3; have g0 := (b0.out.ext E).cells; have l0 := (b0.out.ext E).lt))
  go_ret
  exact ⟨rfl, E0.trans E⟩
set_option maxRecDepth 100000 in
set_option maxHeartbeats 4000000 in
theorem pNetlist_any (nets : Int) (devs : List DvD) (ports : List PoD) (p1 p2 : Option Addr) (n1 c1 n2 c2 base : Nat) (w : World) (s1 : SlD DvR 4 base w p1 n1 devs) (s2 : SlD (Fl encPo) 2 base w p2 n2 ports) (hf : FitNl ⟨nets, devs, ports⟩) :
    Calls Tryz.prog 24 #[.agg #[.int .i64 nets, .slice p1 n1 c1, .slice p2 n2 c2]] w fun e w' => e = .returned (.bool (nlB ⟨nets, devs, ports⟩)) ∧ Ext w w' := by
  obtain ⟨f1, f2, f3, f4⟩ := hf
  have hl1 := hid s1.length
  have hl2 := hid s2.length
  rw [show (⟨nets, devs, ports⟩ : NlD).devs = devs from rfl, hl1.out] at f1
  rw [show (⟨nets, devs, ports⟩ : NlD).ports = ports from rfl, hl2.out] at f3
  replace f2 := hid f2
  replace f4 := hid f4
  cases h0 : wit nets 0 24 with
  | false =>
    have hr : Hid (false = nlB ⟨nets, devs, ports⟩) := by show _ = _; unfold nlB; first | (rw [h0]; done) | (rw [h0]; rfl)
    go_enter Tryz.func24, Tryz.ntmps24
    go_upto_region 1 with (fail)
    generalize hW : World.alloc _ _ = W0
    obtain ⟨E0, z0, b0⟩ := boxes1 hW
    clear hW z0
    replace b0 := hid (show Blk W0 (w.heap.size) [_, _, _] _ from b0)
    have g0 := b0.out.cells
    have l0 := b0.out.lt
    have E := Ext.refl W0
    go_wp2_with (first | (go_at_call 54; refine (within_any _ _ _ _).mono ?_; rintro e w2 ⟨rfl, rfl⟩))
    go_ret
    exact ⟨ret_bool hr.out, E0.trans E⟩
  | true =>
    have hnets : 0 ≤ nets ∧ nets ≤ 24 := by simpa [wit] using h0
    by_cases m1 : 24 < n1
    · have z1 : (24 : Int) < n1 := by omega
      have d1 : decide (devs.length ≤ 24) = false := decide_eq_false (by have := hl1.out; omega)
      have hr : Hid (false = nlB ⟨nets, devs, ports⟩) := by show _ = _; unfold nlB; first | (rw [h0, d1]; done) | (rw [h0, d1]; rfl)
      go_enter Tryz.func24, Tryz.ntmps24
      go_upto_region 1 with (fail)
      generalize hW : World.alloc _ _ = W0
      obtain ⟨E0, z0, b0⟩ := boxes1 hW
      clear hW z0
      replace b0 := hid (show Blk W0 (w.heap.size) [_, _, _] _ from b0)
      have g0 := b0.out.cells
      have l0 := b0.out.lt
      have E := Ext.refl W0
      go_wp2_with (first | (go_at_call 54; refine (within_any _ _ _ _).mono ?_; rintro e w2 ⟨rfl, rfl⟩))
      go_ret
      exact ⟨ret_bool hr.out, E0.trans E⟩
    have d1 : decide (devs.length ≤ 24) = true := decide_eq_true (by have := hl1.out; omega)
    replace d1 := hid d1
    by_cases m2 : 8 < n2
    · have z2 : (8 : Int) < n2 := by omega
      have d2 : decide (ports.length ≤ 8) = false := decide_eq_false (by have := hl2.out; omega)
      have hr : Hid (false = nlB ⟨nets, devs, ports⟩) := by show _ = _; unfold nlB; first | (rw [h0, d1.out, d2]; done) | (rw [h0, d1.out, d2]; rfl)
      go_enter Tryz.func24, Tryz.ntmps24
      go_upto_region 1 with (fail)
      generalize hW : World.alloc _ _ = W0
      obtain ⟨E0, z0, b0⟩ := boxes1 hW
      clear hW z0
      replace b0 := hid (show Blk W0 (w.heap.size) [_, _, _] _ from b0)
      have g0 := b0.out.cells
      have l0 := b0.out.lt
      have E := Ext.refl W0
      go_wp2_with (first | (go_at_call 54; refine (within_any _ _ _ _).mono ?_; rintro e w2 ⟨rfl, rfl⟩))
      go_ret
      exact ⟨ret_bool hr.out, E0.trans E⟩
    have d2 : decide (ports.length ≤ 8) = true := decide_eq_true (by have := hl2.out; omega)
    replace d2 := hid d2
    go_enter Tryz.func24, Tryz.ntmps24
    go_upto_region 1 with (fail)
    generalize hW : World.alloc _ _ = W0
    obtain ⟨E0, z0, b0⟩ := boxes1 hW
    clear hW z0
    replace b0 := hid (show Blk W0 (w.heap.size) [_, _, _] _ from b0)
    have g0 := b0.out.cells
    have l0 := b0.out.lt
    have E := Ext.refl W0
    go_wp2_with (first | (go_at_call 54; refine (within_any _ _ _ _).mono ?_; rintro e w2 ⟨rfl, rfl⟩))
    go_loopw [3, 4, 24] (fun _ _ i wr => ∃ k : Nat, k ≤ n2 ∧ i = .int .i64 k ∧ Ext W0 wr ∧ Hid (∀ j, j < k → poOk ports nets j = true)) (fun _ _ i _ => n2 - (intOf i).toNat)
    case atStart => exact ⟨0, by omega, rfl, E, fun j hj => by omega⟩
    case round =>
      clear g0 l0 E
      obtain ⟨k, hk, rfl, E, hA⟩ := hrel
      have g0 := (b0.out.ext E).cells
      have l0 := (b0.out.ext E).lt
      by_cases hlt : k < n2
      · have hltI : (k : Int) < n2 := by omega
        obtain ⟨b, off, y, cs, rfl, hb, hy, hcs, hc⟩ := ((s2.ext okPort E0).ext okPort E).get hlt
        obtain rfl : cs = encPo y := hcs
        have y0 := hc 0 _ rfl
        rw [Nat.add_zero] at y0
        have y1 := hc 1 _ rfl
        clear hc
        have hfy := hid (f4.out y (List.mem_of_getElem? hy.out))
        go_upto_region 6 with (fail)
        generalize hV : World.alloc _ _ = W1
        obtain ⟨E1, zz, b1⟩ := boxes1 hV
        clear hV zz y0 y1 g0 l0
        replace b1 := hid (show Blk W1 wr.heap.size [_, _] _ from b1)
        replace E := E.trans E1
        replace hb := Nat.lt_of_lt_of_le hb E1.le
        have g0 := (b0.out.ext E).cells
        have l0 := (b0.out.ext E).lt
        have g1 := b1.out.cells
        have l1 := b1.out.lt
        have hc1 : ∀ P : Later W1, Calls Tryz.prog 55 #[.string y.s] P.val fun e w' => e = .returned (.bool (nameB y.s)) ∧ Ext P.val w' := fun P => pName_any y.s P.val hfy.out
        have hc2 : ∀ P : Later W1, Calls Tryz.prog 54 #[.int .i64 y.a, .int .i64 0, .int .i64 (nets - 1)] P.val fun e w' => e = .returned (.bool (wit y.a 0 (nets - 1))) ∧ Ext P.val w' := fun P => (within_any _ _ _ _).mono (fun e w' hh => ⟨hh.1, hh.2 ▸ Ext.refl _⟩)
        cases hq : nameB y.s with
        | false =>
          have a1 : (List.range ports.length).all (poOk ports nets) = false := range_no (by rw [hl2.out]; exact hlt) (poOk_bad hy.out hq)
          have hr : Hid (false = nlB ⟨nets, devs, ports⟩) := by show _ = _; unfold nlB; rw [a1]; simp
          clear a1
          rw [hq] at hc1
          clear hq
          replace hc1 := hid hc1
          replace hc2 := hid hc2
          refine wp_region_later (by kernel_rfl) (by kernel_rfl) ?_
          repeat (go_big_quiet_step (first | (go_at_call 55; exact later_of (hc1.out _)) | (go_at_call 54; exact later_of (hc2.out _))))
          refine wpQuiet_nil ?_
          rintro w7 ⟨⟨_, h7⟩, rfl⟩
          go_wp2
          go_ret
          exact ⟨ret_bool hr.out, E0.trans (E.trans h7)⟩
        | true =>
          rw [hq] at hc1
          replace hq := hid hq
          cases hw : wit y.a 0 (nets - 1) with
          | false =>
            have a1 : (List.range ports.length).all (poOk ports nets) = false := range_no (by rw [hl2.out]; exact hlt) (poOk_net hy.out hw)
            have hr : Hid (false = nlB ⟨nets, devs, ports⟩) := by show _ = _; unfold nlB; rw [a1]; simp
            clear a1
            rw [hw] at hc2
            clear hw
            replace hc1 := hid hc1
            replace hc2 := hid hc2
            refine wp_region_later (by kernel_rfl) (by kernel_rfl) ?_
            repeat (go_big_quiet_step (first | (go_at_call 55; exact later_of (hc1.out _)) | (go_at_call 54; exact later_of (hc2.out _))))
            refine wpQuiet_nil ?_
            rintro w7 ⟨⟨_, h7⟩, rfl⟩
            go_wp2
            go_ret
            exact ⟨ret_bool hr.out, E0.trans (E.trans h7)⟩
          | true =>
            rw [hw] at hc2
            replace hw := hid hw
            replace hc1 := hid hc1
            replace hc2 := hid hc2
            by_cases hk0 : k = 0
            · have hr : Hid (poOk ports nets k = true) := by subst hk0; exact poOk_0 hy.out hq.out hw.out
              have i0 : ¬ ((0 : Int) < (k : Int)) := by omega
              have i3 : decide (0 < k) = false := decide_eq_false (by omega)
              replace hk0 := hid hk0
              refine wp_region_later (by kernel_rfl) (by kernel_rfl) ?_
              repeat (go_big_quiet_step (first | (go_at_call 55; exact later_of (hc1.out _)) | (go_at_call 54; exact later_of (hc2.out _))))
              refine wpQuiet_nil ?_
              rintro w7 ⟨⟨_, h7⟩, rfl⟩
              go_wp2
              go_roundw
              case rel =>
                refine ⟨k + 1, by omega, by go_num, E.trans h7, fun i hi => ?_⟩
                by_cases hjk : i = k
                · subst hjk; exact hr.out
                · exact hA.out i (by omega)
              case measure => simp [intOf]; omega
            · obtain ⟨j, rfl⟩ : ∃ j, k = j + 1 := ⟨k - 1, by omega⟩
              clear hk0
              obtain ⟨b', off', z, cs, hbb, _, hz, hcs, hc⟩ := ((s2.ext okPort E0).ext okPort E).get (show j < n2 by omega)
              cases hbb
              obtain rfl : cs = encPo z := hcs
              have z0 := hc 0 _ rfl
              rw [Nat.add_zero] at z0
              clear hc
              have i0 : (0 : Int) < ((j + 1 : Nat) : Int) := by omega
              have i1 : (j : Int) < n2 := by omega
              have i3 : decide (0 < j + 1) = true := decide_eq_true (by omega)
              cases hbl : Op.bytesLess z.s.toList y.s.toList with
              | true =>
                have hr := hid (poOk_s hy.out hz.out hq.out hw.out hbl)
                refine wp_region_later (by kernel_rfl) (by kernel_rfl) ?_
                repeat (go_big_quiet_step (first | (go_at_call 55; exact later_of (hc1.out _)) | (go_at_call 54; exact later_of (hc2.out _))))
                refine wpQuiet_nil ?_
                rintro w7 ⟨⟨_, h7⟩, rfl⟩
                go_wp2
                go_roundw
                case rel =>
                  refine ⟨(j + 1) + 1, by omega, by go_num, E.trans h7, fun i hi => ?_⟩
                  by_cases hjk : i = (j + 1)
                  · subst hjk; exact hr.out
                  · exact hA.out i (by omega)
                case measure => simp [intOf]; omega
              | false =>
                have a1 : (List.range ports.length).all (poOk ports nets) = false := range_no (by rw [hl2.out]; exact hlt) (poOk_less hy.out hz.out hbl)
                have hr : Hid (false = nlB ⟨nets, devs, ports⟩) := by show _ = _; unfold nlB; rw [a1]; simp
                clear a1
                refine wp_region_later (by kernel_rfl) (by kernel_rfl) ?_
                repeat (go_big_quiet_step (first | (go_at_call 55; exact later_of (hc1.out _)) | (go_at_call 54; exact later_of (hc2.out _))))
                refine wpQuiet_nil ?_
                rintro w7 ⟨⟨_, h7⟩, rfl⟩
                go_wp2
                go_ret
                exact ⟨ret_bool hr.out, E0.trans (E.trans h7)⟩
      · have a1 : Hid ((List.range ports.length).all (poOk ports nets) = true) := range_yes fun j hj => hA.out j (by have := hl2.out; omega)
        clear hA
        cases ha : devs.all (dvB · nets) with
        | false =>
          have hr : Hid (false = nlB ⟨nets, devs, ports⟩) := by show _ = _; unfold nlB; rw [h0, d1.out, d2.out, ha, a1.out]; simp
          have cf : ∀ W, Ext W0 W → Calls Tryz.prog 56 #[.slice p1 n1 c1, .func (.func 57) #[] #[.pointer (some ⟨w.heap.size, 0, none⟩)]] W fun e w2 => e = .returned (.bool true) ∧ Ext W w2 := fun W hX => by
            have := containsFuncDeviceD p1 n1 c1 base devs (fun y => !dvB y nets) 57 #[.pointer (some ⟨w.heap.size, 0, none⟩)] (enters_of Tryz.func57 (by kernel_rfl) rfl) W ((s1.ext DvR.ok E0).ext DvR.ok hX)
              (fun W2 y cs hE hy hcs => by obtain ⟨p4, n4, c4, rfl, s4⟩ := hcs; exact vNl1_any y nets p4 n4 c4 base w.heap.size W2 s4 (by rw [← s4.length]; exact f2.out y hy) hnets (Nat.lt_of_lt_of_le b0.out.lt (hX.trans hE).le) (((hX.trans hE).cells _ _ b0.out.lt).trans (b0.out.cells 0))) (by omega)
            rw [any_no, ha] at this
            exact this
          replace cf := hid cf
          clear ha
          go_wp2_with (first | (go_at_call 56; refine (cf.out _ E).mono ?_; rintro e w4 ⟨rfl, E4⟩; replace E := E.trans E4; clear g0 l0 E4; have g0 := (b0.out.ext E).cells; have l0 := (b0.out.ext E).lt))
          go_ret
          exact ⟨ret_bool hr.out, E0.trans E⟩
        | true =>
          have hr : Hid (true = nlB ⟨nets, devs, ports⟩) := by show _ = _; unfold nlB; rw [h0, d1.out, d2.out, ha, a1.out]; rfl
          have cf : ∀ W, Ext W0 W → Calls Tryz.prog 56 #[.slice p1 n1 c1, .func (.func 57) #[] #[.pointer (some ⟨w.heap.size, 0, none⟩)]] W fun e w2 => e = .returned (.bool false) ∧ Ext W w2 := fun W hX => by
            have := containsFuncDeviceD p1 n1 c1 base devs (fun y => !dvB y nets) 57 #[.pointer (some ⟨w.heap.size, 0, none⟩)] (enters_of Tryz.func57 (by kernel_rfl) rfl) W ((s1.ext DvR.ok E0).ext DvR.ok hX)
              (fun W2 y cs hE hy hcs => by obtain ⟨p4, n4, c4, rfl, s4⟩ := hcs; exact vNl1_any y nets p4 n4 c4 base w.heap.size W2 s4 (by rw [← s4.length]; exact f2.out y hy) hnets (Nat.lt_of_lt_of_le b0.out.lt (hX.trans hE).le) (((hX.trans hE).cells _ _ b0.out.lt).trans (b0.out.cells 0))) (by omega)
            rw [any_no, ha] at this
            exact this
          replace cf := hid cf
          clear ha
          go_wp2_with (first | (go_at_call 56; refine (cf.out _ E).mono ?_; rintro e w4 ⟨rfl, E4⟩; replace E := E.trans E4; clear g0 l0 E4; have g0 := (b0.out.ext E).cells; have l0 := (b0.out.ext E).lt))
          go_ret
          exact ⟨ret_bool hr.out, E0.trans E⟩

set_option maxRecDepth 100000 in
set_option maxHeartbeats 4000000 in
theorem rNetlist_any (nets : Int) (devs : List DvD) (ports : List PoD) (p1 p2 : Option Addr) (n1 c1 n2 c2 base : Nat) (w : World) (s1 : SlD DvR 4 base w p1 n1 devs) (s2 : SlD (Fl encPo) 2 base w p2 n2 ports) (hf : FitNl ⟨nets, devs, ports⟩) :
    Calls Tryz.prog 16 #[.agg #[.int .i64 nets, .slice p1 n1 c1, .slice p2 n2 c2]] w fun e w' => e = .returned (.bool (nlB ⟨nets, devs, ports⟩)) ∧ Ext w w' := by
  obtain ⟨f1, f2, f3, f4⟩ := hf
  have hl1 := hid s1.length
  have hl2 := hid s2.length
  rw [show (⟨nets, devs, ports⟩ : NlD).devs = devs from rfl, hl1.out] at f1
  rw [show (⟨nets, devs, ports⟩ : NlD).ports = ports from rfl, hl2.out] at f3
  replace f2 := hid f2
  replace f4 := hid f4
  cases h0 : wit nets 0 24 with
  | false =>
    have hr : Hid (false = nlB ⟨nets, devs, ports⟩) := by show _ = _; unfold nlB; first | (rw [h0]; done) | (rw [h0]; rfl)
    go_enter Tryz.func16, Tryz.ntmps16
    go_upto_region 1 with (fail)
    generalize hW : World.alloc _ _ = W0
    obtain ⟨E0, z0, b0⟩ := boxes1 hW
    clear hW z0
    replace b0 := hid (show Blk W0 (w.heap.size) [_, _, _] _ from b0)
    have g0 := b0.out.cells
    have l0 := b0.out.lt
    have E := Ext.refl W0
    go_wp2_with (first | (go_at_call 40; refine (l16In_any _ _ _ _).mono ?_; rintro e w2 ⟨rfl, rfl⟩))
    go_ret
    exact ⟨ret_bool hr.out, E0.trans E⟩
  | true =>
    have hnets : 0 ≤ nets ∧ nets ≤ 24 := by simpa [wit] using h0
    by_cases m1 : 24 < n1
    · have z1 : (24 : Int) < n1 := by omega
      have d1 : decide (devs.length ≤ 24) = false := decide_eq_false (by have := hl1.out; omega)
      have hr : Hid (false = nlB ⟨nets, devs, ports⟩) := by show _ = _; unfold nlB; first | (rw [h0, d1]; done) | (rw [h0, d1]; rfl)
      go_enter Tryz.func16, Tryz.ntmps16
      go_upto_region 1 with (fail)
      generalize hW : World.alloc _ _ = W0
      obtain ⟨E0, z0, b0⟩ := boxes1 hW
      clear hW z0
      replace b0 := hid (show Blk W0 (w.heap.size) [_, _, _] _ from b0)
      have g0 := b0.out.cells
      have l0 := b0.out.lt
      have E := Ext.refl W0
      go_wp2_with (first | (go_at_call 40; refine (l16In_any _ _ _ _).mono ?_; rintro e w2 ⟨rfl, rfl⟩))
      go_ret
      exact ⟨ret_bool hr.out, E0.trans E⟩
    have d1 : decide (devs.length ≤ 24) = true := decide_eq_true (by have := hl1.out; omega)
    replace d1 := hid d1
    by_cases m2 : 8 < n2
    · have z2 : (8 : Int) < n2 := by omega
      have d2 : decide (ports.length ≤ 8) = false := decide_eq_false (by have := hl2.out; omega)
      have hr : Hid (false = nlB ⟨nets, devs, ports⟩) := by show _ = _; unfold nlB; first | (rw [h0, d1.out, d2]; done) | (rw [h0, d1.out, d2]; rfl)
      go_enter Tryz.func16, Tryz.ntmps16
      go_upto_region 1 with (fail)
      generalize hW : World.alloc _ _ = W0
      obtain ⟨E0, z0, b0⟩ := boxes1 hW
      clear hW z0
      replace b0 := hid (show Blk W0 (w.heap.size) [_, _, _] _ from b0)
      have g0 := b0.out.cells
      have l0 := b0.out.lt
      have E := Ext.refl W0
      go_wp2_with (first | (go_at_call 40; refine (l16In_any _ _ _ _).mono ?_; rintro e w2 ⟨rfl, rfl⟩))
      go_ret
      exact ⟨ret_bool hr.out, E0.trans E⟩
    have d2 : decide (ports.length ≤ 8) = true := decide_eq_true (by have := hl2.out; omega)
    replace d2 := hid d2
    go_enter Tryz.func16, Tryz.ntmps16
    go_upto_region 1 with (fail)
    generalize hW : World.alloc _ _ = W0
    obtain ⟨E0, z0, b0⟩ := boxes1 hW
    clear hW z0
    replace b0 := hid (show Blk W0 (w.heap.size) [_, _, _] _ from b0)
    have g0 := b0.out.cells
    have l0 := b0.out.lt
    have E := Ext.refl W0
    go_wp2_with (first | (go_at_call 40; refine (l16In_any _ _ _ _).mono ?_; rintro e w2 ⟨rfl, rfl⟩))
    go_loopw [3] (fun i wr => ∃ k : Nat, k ≤ n1 ∧ i = .int .i64 k ∧ Ext W0 wr ∧ Hid ((devs.take k).all (dvB · nets) = true)) (fun i _ => n1 - (intOf i).toNat)
    case atStart => exact ⟨0, by omega, rfl, E, rfl⟩
    case round =>
      clear g0 l0 E
      obtain ⟨k, hk, rfl, E, hA⟩ := hrel
      have g0 := (b0.out.ext E).cells
      have l0 := (b0.out.ext E).lt
      by_cases hlt : k < n1
      · have hltI : (k : Int) < n1 := by omega
        obtain ⟨b, off, y, cs, rfl, hb, hx, hcs, hc⟩ := ((s1.ext DvR.ok E0).ext DvR.ok E).get hlt
        obtain ⟨p4, n4, c4, rfl, s4⟩ := hcs
        have hfy := hid (f2.out y (List.mem_of_getElem? hx.out))
        have y0 := hc 0 _ rfl
        rw [Nat.add_zero] at y0
        have y1 := hc 1 _ rfl
        have y2 := hc 2 _ rfl
        have y3 := hc 3 _ rfl
        clear hc
        have hc1 : ∀ P : Later wr, Calls Tryz.prog 41 #[.agg #[.int .i64 y.a, .slice p4 n4 c4, .int .i64 y.b, .int .i64 y.c], .int .i64 nets] P.val fun e w' => e = .returned (.bool (dvB y nets)) ∧ Ext P.val w' := fun P => rDevice_any y.a y.b y.c nets y.pins p4 n4 c4 base P.val (s4.ext okInt P.ok) (by rw [← s4.length]; exact hfy.out) hnets
        go_wp2_with (fail)
        cases hq : dvB y nets with
        | false =>
          have ha : devs.all (dvB · nets) = false := all_no hx.out hq
          have hr : Hid (false = nlB ⟨nets, devs, ports⟩) := by show _ = _; unfold nlB; rw [h0, d1.out, d2.out, ha]; rfl
          rw [hq] at hc1
          clear hq ha
          replace hc1 := hid hc1
          refine wp_region_later (by kernel_rfl) (by kernel_rfl) ?_
          repeat (go_big_quiet_step ((go_at_call 41; exact later_of (hc1.out _))))
          refine wpQuiet_nil ?_
          rintro w7 ⟨⟨_, h7⟩, rfl⟩
          go_wp2
          go_ret
          exact ⟨ret_bool hr.out, E0.trans (E.trans h7)⟩
        | true =>
          have hr := hid (all_snoc hA.out hx.out hq)
          rw [hq] at hc1
          clear hq
          replace hc1 := hid hc1
          refine wp_region_later (by kernel_rfl) (by kernel_rfl) ?_
          repeat (go_big_quiet_step ((go_at_call 41; exact later_of (hc1.out _))))
          refine wpQuiet_nil ?_
          rintro w7 ⟨⟨_, h7⟩, rfl⟩
          go_wp2
          go_roundw
          case rel => exact ⟨k + 1, by omega, by go_num, E.trans h7, hr⟩
          case measure => simp [intOf]; omega
      · have ha : Hid (devs.all (dvB · nets) = true) := all_fin hA.out hl1.out (by omega)
        clear hA
        go_wp2_with (fail)
        go_loopw [4] (fun i wr => ∃ k : Nat, k ≤ n2 ∧ i = .int .i64 k ∧ Ext W0 wr ∧ Hid (∀ j, j < k → poOk ports nets j = true)) (fun i _ => n2 - (intOf i).toNat)
        case atStart => exact ⟨0, by omega, rfl, E, fun j hj => by omega⟩
        case round =>
          clear g0 l0 E
          obtain ⟨k, hk, rfl, E, hA⟩ := hrel
          have g0 := (b0.out.ext E).cells
          have l0 := (b0.out.ext E).lt
          by_cases hlt : k < n2
          · have hltI : (k : Int) < n2 := by omega
            obtain ⟨b, off, y, cs, rfl, hb, hy, hcs, hc⟩ := ((s2.ext okPort E0).ext okPort E).get hlt
            obtain rfl : cs = encPo y := hcs
            have y0 := hc 0 _ rfl
            rw [Nat.add_zero] at y0
            have y1 := hc 1 _ rfl
            clear hc
            have hfy := hid (f4.out y (List.mem_of_getElem? hy.out))
            go_wp2_with (fail)
            have hc1 : ∀ P : Later wr, Calls Tryz.prog 42 #[.string y.s] P.val fun e w' => e = .returned (.bool (nameB y.s)) ∧ Ext P.val w' := fun P => rName_any y.s P.val hfy.out
            have hc2 : ∀ P : Later wr, Calls Tryz.prog 40 #[.int .i64 y.a, .int .i64 0, .int .i64 (nets - 1)] P.val fun e w' => e = .returned (.bool (wit y.a 0 (nets - 1))) ∧ Ext P.val w' := fun P => (l16In_any _ _ _ _).mono (fun e w' hh => ⟨hh.1, hh.2 ▸ Ext.refl _⟩)
            cases hq : nameB y.s with
            | false =>
              have a1 : (List.range ports.length).all (poOk ports nets) = false := range_no (by rw [hl2.out]; exact hlt) (poOk_bad hy.out hq)
              have hr : Hid (false = nlB ⟨nets, devs, ports⟩) := by show _ = _; unfold nlB; rw [h0, d1.out, d2.out, ha.out, a1]; simp
              clear a1
              rw [hq] at hc1
              clear hq
              replace hc1 := hid hc1
              replace hc2 := hid hc2
              refine wp_region_later (by kernel_rfl) (by kernel_rfl) ?_
              repeat (go_big_quiet_step (first | (go_at_call 42; exact later_of (hc1.out _)) | (go_at_call 40; exact later_of (hc2.out _))))
              refine wpQuiet_nil ?_
              rintro w7 ⟨⟨_, h7⟩, rfl⟩
              go_wp2
              go_ret
              exact ⟨ret_bool hr.out, E0.trans (E.trans h7)⟩
            | true =>
              rw [hq] at hc1
              replace hq := hid hq
              by_cases hk0 : k = 0
              · have hr0 : Hid (wit y.a 0 (nets - 1) = true → poOk ports nets k = true) := by subst hk0; exact fun hw => poOk_0 hy.out hq.out hw
                have i0 : ¬ ((0 : Int) < (k : Int)) := by omega
                have i3 : decide (0 < k) = false := decide_eq_false (by omega)
                replace hk0 := hid hk0
                cases hw : wit y.a 0 (nets - 1) with
                | false =>
                  have a1 : (List.range ports.length).all (poOk ports nets) = false := range_no (by rw [hl2.out]; exact hlt) (poOk_net hy.out hw)
                  have hr : Hid (false = nlB ⟨nets, devs, ports⟩) := by show _ = _; unfold nlB; rw [h0, d1.out, d2.out, ha.out, a1]; simp
                  clear a1
                  rw [hw] at hc2
                  clear hw
                  replace hc1 := hid hc1
                  replace hc2 := hid hc2
                  refine wp_region_later (by kernel_rfl) (by kernel_rfl) ?_
                  repeat (go_big_quiet_step (first | (go_at_call 42; exact later_of (hc1.out _)) | (go_at_call 40; exact later_of (hc2.out _))))
                  refine wpQuiet_nil ?_
                  rintro w7 ⟨⟨_, h7⟩, rfl⟩
                  go_wp2
                  go_ret
                  exact ⟨ret_bool hr.out, E0.trans (E.trans h7)⟩
                | true =>
                  have hr := hid (hr0.out hw)
                  rw [hw] at hc2
                  clear hw
                  replace hc1 := hid hc1
                  replace hc2 := hid hc2
                  refine wp_region_later (by kernel_rfl) (by kernel_rfl) ?_
                  repeat (go_big_quiet_step (first | (go_at_call 42; exact later_of (hc1.out _)) | (go_at_call 40; exact later_of (hc2.out _))))
                  refine wpQuiet_nil ?_
                  rintro w7 ⟨⟨_, h7⟩, rfl⟩
                  go_wp2
                  go_roundw
                  case rel =>
                    refine ⟨k + 1, by omega, by go_num, E.trans h7, fun i hi => ?_⟩
                    by_cases hjk : i = k
                    · subst hjk; exact hr.out
                    · exact hA.out i (by omega)
                  case measure => simp [intOf]; omega
              · obtain ⟨j, rfl⟩ : ∃ j, k = j + 1 := ⟨k - 1, by omega⟩
                clear hk0
                obtain ⟨b', off', z, cs, hbb, _, hz, hcs, hc⟩ := ((s2.ext okPort E0).ext okPort E).get (show j < n2 by omega)
                cases hbb
                obtain rfl : cs = encPo z := hcs
                have z0 := hc 0 _ rfl
                rw [Nat.add_zero] at z0
                clear hc
                have i0 : (0 : Int) < ((j + 1 : Nat) : Int) := by omega
                have i1 : (j : Int) < n2 := by omega
                have i3 : decide (0 < j + 1) = true := decide_eq_true (by omega)
                cases hbl : Op.bytesLess z.s.toList y.s.toList with
                | true =>
                  have hr0 : Hid (wit y.a 0 (nets - 1) = true → poOk ports nets (j + 1) = true) := fun hw => poOk_s hy.out hz.out hq.out hw hbl
                  cases hw : wit y.a 0 (nets - 1) with
                  | false =>
                    have a1 : (List.range ports.length).all (poOk ports nets) = false := range_no (by rw [hl2.out]; exact hlt) (poOk_net hy.out hw)
                    have hr : Hid (false = nlB ⟨nets, devs, ports⟩) := by show _ = _; unfold nlB; rw [h0, d1.out, d2.out, ha.out, a1]; simp
                    clear a1
                    rw [hw] at hc2
                    clear hw
                    replace hc1 := hid hc1
                    replace hc2 := hid hc2
                    refine wp_region_later (by kernel_rfl) (by kernel_rfl) ?_
                    repeat (go_big_quiet_step (first | (go_at_call 42; exact later_of (hc1.out _)) | (go_at_call 40; exact later_of (hc2.out _))))
                    refine wpQuiet_nil ?_
                    rintro w7 ⟨⟨_, h7⟩, rfl⟩
                    go_wp2
                    go_ret
                    exact ⟨ret_bool hr.out, E0.trans (E.trans h7)⟩
                  | true =>
                    have hr := hid (hr0.out hw)
                    rw [hw] at hc2
                    clear hw
                    replace hc1 := hid hc1
                    replace hc2 := hid hc2
                    refine wp_region_later (by kernel_rfl) (by kernel_rfl) ?_
                    repeat (go_big_quiet_step (first | (go_at_call 42; exact later_of (hc1.out _)) | (go_at_call 40; exact later_of (hc2.out _))))
                    refine wpQuiet_nil ?_
                    rintro w7 ⟨⟨_, h7⟩, rfl⟩
                    go_wp2
                    go_roundw
                    case rel =>
                      refine ⟨(j + 1) + 1, by omega, by go_num, E.trans h7, fun i hi => ?_⟩
                      by_cases hjk : i = (j + 1)
                      · subst hjk; exact hr.out
                      · exact hA.out i (by omega)
                    case measure => simp [intOf]; omega
                | false =>
                  have a1 : (List.range ports.length).all (poOk ports nets) = false := range_no (by rw [hl2.out]; exact hlt) (poOk_less hy.out hz.out hbl)
                  have hr : Hid (false = nlB ⟨nets, devs, ports⟩) := by show _ = _; unfold nlB; rw [h0, d1.out, d2.out, ha.out, a1]; simp
                  clear a1
                  replace hc1 := hid hc1
                  replace hc2 := hid hc2
                  refine wp_region_later (by kernel_rfl) (by kernel_rfl) ?_
                  repeat (go_big_quiet_step (first | (go_at_call 42; exact later_of (hc1.out _)) | (go_at_call 40; exact later_of (hc2.out _))))
                  refine wpQuiet_nil ?_
                  rintro w7 ⟨⟨_, h7⟩, rfl⟩
                  go_wp2
                  go_ret
                  exact ⟨ret_bool hr.out, E0.trans (E.trans h7)⟩
          · have a1 : Hid ((List.range ports.length).all (poOk ports nets) = true) := range_yes fun j hj => hA.out j (by have := hl2.out; omega)
            clear hA
            have hr : Hid (true = nlB ⟨nets, devs, ports⟩) := by show _ = _; unfold nlB; rw [h0, d1.out, d2.out, ha.out, a1.out]; rfl
            go_wp2_with (fail)
            go_ret
            exact ⟨ret_bool hr.out, E0.trans E⟩

end Go.Proofs.YtajlkanocngdfaaGreat
