/- Greatest common divisors; validity of devices, program and reference. Condition: lengths that fit. -/
import Derived.Test.YtajlkanocngdfaaGreatVlb
import Derived.BigRegion
namespace Go.Proofs.YtajlkanocngdfaaGreat
open Go.RowKit Go.PlainAid

def gB (a b : Int) : Bool := decide (Nat.gcd a.toNat b.toNat = 1)
def pinN (a : Int) : Nat := if a = 2 then 2 else 3
def dvB (x : DvD) (nets : Int) : Bool := wit x.a 0 2 && (decide (x.pins.length = pinN x.a) && (x.pins.all (wit · 0 (nets - 1)) && (wit x.b 1 1000000 && (wit x.c 1 1000000 && (!(x.a == 2) || gB x.b x.c)))))
theorem gcd_step (a b : Nat) : Nat.gcd b (a % b) = Nat.gcd a b := by
  rw [Nat.gcd_comm b, ← Nat.gcd_rec, Nat.gcd_comm]
theorem gcd_zero (a b : Nat) (hb : b = 0) : Nat.gcd a b = a := by rw [hb, Nat.gcd_zero_right]

set_option maxRecDepth 100000 in
set_option maxHeartbeats 4000000 in
theorem divisor_any (a b : Nat) (ha : a ≤ 1000000) (hb : b ≤ 1000000) (w : World) :
    Calls Tryz.prog 126 #[.int .u64 a, .int .u64 b] w fun e w' => e = .returned (.int .u64 (Nat.gcd a b : Nat)) ∧ Ext w w' := by
  go_enter Tryz.func126, Tryz.ntmps126
  go_wp2_with (fail)
  go_loopw [0, 1] (fun x y wr => ∃ i j : Nat, i ≤ 1000000 ∧ j ≤ 1000000 ∧ x = .int .u64 i ∧ y = .int .u64 j ∧ Ext w wr ∧ Hid (Nat.gcd i j = Nat.gcd a b)) (fun _ y _ => (intOf y).toNat)
  case atStart => exact ⟨a, b, ha, hb, rfl, rfl, Ext.refl _, rfl⟩
  case round =>
    obtain ⟨i, j, hi, hj, rfl, rfl, E, hg⟩ := hrel
    by_cases hj0 : j = 0
    · have hr : Hid ((i : Int) = (Nat.gcd a b : Nat)) := by show _ = _; rw [← hg.out, gcd_zero i j hj0]
      have i0 : (j : Int) = 0 := by omega
      have i1 : ((j : Int) == 0) = true := by simpa using i0
      go_wp2_with (fail)
      go_ret
      exact ⟨ret_int hr.out, E⟩
    · have hg2 := hid ((gcd_step i j).trans hg.out)
      have hlt : i % j < j := Nat.mod_lt _ (by omega)
      have i0 : ¬ ((j : Int) = 0) := by omega
      have i1 : ((j : Int) == 0) = false := by simpa using hj0
      go_wp2_with (fail)
      refine wp_region_later (by kernel_rfl) (by kernel_rfl) ?_
      repeat (go_big_quiet_step (fail))
      refine wpQuiet_nil ?_
      rintro w7 ⟨⟨_, h7⟩, rfl⟩
      go_wp2
      refine ⟨⟨j, i % j, hj, by omega, rfl, by rw [Int.natCast_emod], E.trans h7, hg2⟩, ?_⟩
      simp only [intOf]
      omega

set_option maxRecDepth 100000 in
set_option maxHeartbeats 4000000 in
theorem l26Gcd_any (a b : Nat) (ha : a ≤ 1000000) (hb : b ≤ 1000000) (w : World) :
    Calls Tryz.prog 75 #[.int .i64 a, .int .i64 b] w fun e w' => e = .returned (.int .i64 (Nat.gcd a b : Nat)) ∧ Ext w w' := by
  go_enter Tryz.func75, Tryz.ntmps75
  go_wp2_with (fail)
  go_loopw [0, 1] (fun x y wr => ∃ i j : Nat, i ≤ 1000000 ∧ j ≤ 1000000 ∧ x = .int .i64 i ∧ y = .int .i64 j ∧ Ext w wr ∧ Hid (Nat.gcd i j = Nat.gcd a b)) (fun _ y _ => (intOf y).toNat)
  case atStart => exact ⟨a, b, ha, hb, rfl, rfl, Ext.refl _, rfl⟩
  case round =>
    obtain ⟨i, j, hi, hj, rfl, rfl, E, hg⟩ := hrel
    by_cases hj0 : j = 0
    · have hr : Hid ((i : Int) = (Nat.gcd a b : Nat)) := by show _ = _; rw [← hg.out, gcd_zero i j hj0]
      have i0 : (j : Int) = 0 := by omega
      have i1 : ¬ ((0 : Int) < (j : Int)) := by omega
      go_wp2_with (fail)
      go_ret
      exact ⟨ret_int hr.out, E⟩
    · have hg2 := hid ((gcd_step i j).trans hg.out)
      have hlt : i % j < j := Nat.mod_lt _ (by omega)
      have i0 : ¬ ((j : Int) = 0) := by omega
      have i1 : (0 : Int) < (j : Int) := by omega
      go_wp2_with (fail)
      refine wp_region_later (by kernel_rfl) (by kernel_rfl) ?_
      repeat (go_big_quiet_step (fail))
      refine wpQuiet_nil ?_
      rintro w7 ⟨⟨_, h7⟩, rfl⟩
      go_wp2
      refine ⟨⟨j, i % j, hj, by omega, rfl, by rw [Int.natCast_emod], E.trans h7, hg2⟩, ?_⟩
      simp only [intOf]
      omega

set_option maxRecDepth 100000 in
set_option maxHeartbeats 4000000 in
theorem absolute_any (n : Nat) (hn : n ≤ 1000000) (w : World) :
    Calls Tryz.prog 127 #[.int .i64 n] w fun e w' => e = .returned (.int .u64 n) ∧ w = w' := by
  have i0 : ¬ ((n : Int) < 0) := by omega
  have i1 : (n : Int) ≤ 1000000 := by omega
  go_enter Tryz.func127, Tryz.ntmps127
  go_wp2
  go_ret
  exact ⟨rfl, rfl⟩

set_option maxRecDepth 100000 in
set_option maxHeartbeats 4000000 in
theorem validRatio_any (a b : Nat) (ha : a ≤ 1000000) (hb : b ≤ 1000000) (hb0 : 1 ≤ b) (w : World) :
    Calls Tryz.prog 93 #[.agg #[.int .i64 a, .int .i64 b]] w fun e w' => e = .returned (.bool (gB a b)) ∧ Ext w w' := by
  have i0 : (0 : Int) < (b : Int) := by omega
  have i1 : (b : Int) ≤ 1000000 := by omega
  have i2 : decide (0 < b) = true := decide_eq_true (by omega)
  have hr : Hid (((Nat.gcd a b : Nat) : Int) = 1 ↔ gB a b = true) := by
    show _ ↔ _
    unfold gB
    rw [Int.toNat_natCast, Int.toNat_natCast, decide_eq_true_iff]
    omega
  have hr2 : Hid (∀ v : Bool, (v = true ↔ ((Nat.gcd a b : Nat) : Int) = 1) → v = gB a b) := fun v h => Bool.eq_iff_iff.2 (h.trans hr.out)
  obtain ⟨gv, hgv⟩ : ∃ gv : Int, gv = ((Nat.gcd a b : Nat) : Int) := ⟨_, rfl⟩
  have hc := fun W => divisor_any a b ha hb W
  rw [← hgv] at hc hr2
  replace hc := hid hc
  clear hr hgv
  go_enter Tryz.func93, Tryz.ntmps93
  go_upto_region 1 with (fail)
  generalize hW : World.alloc _ _ = W0
  obtain ⟨E0, z0, b0⟩ := boxes1 hW
  clear hW z0
  replace b0 := hid (show Blk W0 (w.heap.size) [_, _] _ from b0)
  have g0 := b0.out.cells
  have l0 := b0.out.lt
  have E := Ext.refl W0
  have hc1 : ∀ P : Later W0, Calls Tryz.prog 127 #[.int .i64 a] P.val fun e w' => e = .returned (.int .u64 a) ∧ Ext P.val w' := fun P => (absolute_any a ha P.val).mono (fun e w' hh => ⟨hh.1, hh.2 ▸ Ext.refl _⟩)
  replace hc1 := hid hc1
  go_wp2_with (fail)
  refine wp_region_later (by kernel_rfl) (by kernel_rfl) ?_
  repeat (go_big_quiet_step (first | (go_at_call 127; exact later_of (hc1.out _)) | (go_at_call 126; exact later_of (hc.out _))))
  refine wpQuiet_nil ?_
  rintro w7 ⟨⟨_, h7⟩, rfl⟩
  go_wp2
  go_ret
  exact ⟨ret_bool (hr2.out _ (by simp)), E0.trans (E.trans h7)⟩
set_option maxRecDepth 100000 in
set_option maxHeartbeats 4000000 in
theorem pinCount_any (a : Int) (r : Int) (h : (a = 0 ∨ a = 1) ∧ r = 3 ∨ a = 2 ∧ r = 2 ∨ ¬ (0 ≤ a ∧ a ≤ 2) ∧ r = 0) (w : World) :
    Calls Tryz.prog 90 #[.int .i64 a] w fun e w' => e = .returned (.int .i64 r) ∧ w = w' := by
  rcases h with ⟨rfl | rfl, rfl⟩ | ⟨rfl, rfl⟩ | ⟨h, rfl⟩
  · go_enter Tryz.func90, Tryz.ntmps90
    go_wp2
    go_ret
    exact ⟨rfl, rfl⟩
  · go_enter Tryz.func90, Tryz.ntmps90
    go_wp2
    go_ret
    exact ⟨rfl, rfl⟩
  · go_enter Tryz.func90, Tryz.ntmps90
    go_wp2
    go_ret
    exact ⟨rfl, rfl⟩
  · have q0 : (a == 0) = false := by simp; omega
    have q1 : (a == 1) = false := by simp; omega
    have q2 : (a == 2) = false := by simp; omega
    go_enter Tryz.func90, Tryz.ntmps90
    go_wp2
    go_ret
    exact ⟨rfl, rfl⟩

set_option maxRecDepth 100000 in
set_option maxHeartbeats 4000000 in
theorem vD1_any (x nets : Int) (B : Nat) (w : World) (hn : 0 ≤ nets ∧ nets ≤ 24) (hc : w.cell? ⟨B, 0, none⟩ = some (.int .i64 nets)) :
    Calls Tryz.prog 92 #[.int .i64 x, .pointer (some ⟨B, 0, none⟩)] w fun e w' => e = .returned (.bool (!wit x 0 (nets - 1))) ∧ Ext w w' := by
  go_enter Tryz.func92, Tryz.ntmps92
  go_wp2_with (go_at_call 54; refine (within_any _ _ _ _).mono ?_; rintro e w2 ⟨rfl, rfl⟩)
  go_ret
  exact ⟨rfl, Ext.refl _⟩

set_option maxRecDepth 100000 in
set_option maxHeartbeats 4000000 in
theorem pDev0 (b d nets : Int) (pins : List Int) (p : Option Addr) (n c base : Nat) (w : World) (h : SlD (Fl enc1) 1 base w p n pins) (hn : n ≤ 9223372036854775807) (hnets : 0 ≤ nets ∧ nets ≤ 24) :
    Calls Tryz.prog 58 #[.agg #[.int .i64 0, .slice p n c, .int .i64 b, .int .i64 d], .int .i64 nets] w fun e w' => e = .returned (.bool (dvB ⟨0, pins, b, d⟩ nets)) ∧ Ext w w' := by
  have hl := hid h.length
  have hk : wit 0 0 2 = true := by decide
  by_cases m1 : n = 3
  · have d1 : Hid (decide (pins.length = pinN 0) = true) := decide_eq_true (by have := hl.out; have : pinN 0 = 3 := rfl; omega)
    subst m1
    cases a1 : pins.all (wit · 0 (nets - 1)) with
    | false =>
      have hr : Hid (false = dvB ⟨0, pins, b, d⟩ nets) := by show _ = _; unfold dvB; rw [hk, d1.out, a1]; simp
      go_enter Tryz.func58, Tryz.ntmps58
      go_upto_region 1 with (fail)
      generalize hW : World.alloc (World.alloc _ _) _ = W0
      obtain ⟨E0, z0, b0, b1⟩ := boxes2 hW
      clear hW z0
      replace b0 := hid (show Blk W0 (w.heap.size) [_, _, _, _] _ from b0)
      replace b1 := hid (show Blk W0 (w.heap.size + 1) [_] _ from b1)
      have g0 := b0.out.cells
      have l0 := b0.out.lt
      have g1 := b1.out.cells
      have l1 := b1.out.lt
      have E := Ext.refl W0
      have cf : ∀ W, Ext W0 W → Calls Tryz.prog 91 #[.slice p 3 c, .func (.func 92) #[] #[.pointer (some ⟨w.heap.size + 1, 0, none⟩)]] W fun e w2 => e = .returned (.bool true) ∧ Ext W w2 := fun W hX => by
        have := containsFuncInt64D p 3 c base pins (fun y => !wit y 0 (nets - 1)) 92 #[.pointer (some ⟨w.heap.size + 1, 0, none⟩)] (enters_of Tryz.func92 (by kernel_rfl) rfl) W ((h.ext okInt E0).ext okInt hX)
          (fun W2 y hE hy => vD1_any y nets (w.heap.size + 1) W2 hnets (((hX.trans hE).cells _ _ b1.out.lt).trans (b1.out.cells 0))) (by omega)
        rw [any_no, a1] at this
        exact this
      replace cf := hid cf
      go_wp2_with (first | (go_at_call 90; refine (pinCount_any 0 3 (by decide) _).mono ?_; rintro e w2 ⟨rfl, rfl⟩) | (go_at_call 54; refine (within_any _ _ _ _).mono ?_; rintro e w2 ⟨rfl, rfl⟩) | (go_at_call 91; refine (cf.out _ E).mono ?_; rintro e w4 ⟨rfl, E4⟩; replace E := E.trans E4; clear g0 l0 g1 l1 E4; have g0 := (b0.out.ext E).cells; have l0 := (b0.out.ext E).lt; have g1 := (b1.out.ext E).cells; have l1 := (b1.out.ext E).lt))
      go_ret
      exact ⟨ret_bool hr.out, E0.trans E⟩
    | true =>
      replace a1 := hid a1
      cases a2 : wit b 1 1000000 with
      | false =>
        have hr : Hid (false = dvB ⟨0, pins, b, d⟩ nets) := by show _ = _; unfold dvB; rw [hk, d1.out, a1.out, a2]; simp
        go_enter Tryz.func58, Tryz.ntmps58
        go_upto_region 1 with (fail)
        generalize hW : World.alloc (World.alloc _ _) _ = W0
        obtain ⟨E0, z0, b0, b1⟩ := boxes2 hW
        clear hW z0
        replace b0 := hid (show Blk W0 (w.heap.size) [_, _, _, _] _ from b0)
        replace b1 := hid (show Blk W0 (w.heap.size + 1) [_] _ from b1)
        have g0 := b0.out.cells
        have l0 := b0.out.lt
        have g1 := b1.out.cells
        have l1 := b1.out.lt
        have E := Ext.refl W0
        have cf : ∀ W, Ext W0 W → Calls Tryz.prog 91 #[.slice p 3 c, .func (.func 92) #[] #[.pointer (some ⟨w.heap.size + 1, 0, none⟩)]] W fun e w2 => e = .returned (.bool false) ∧ Ext W w2 := fun W hX => by
          have := containsFuncInt64D p 3 c base pins (fun y => !wit y 0 (nets - 1)) 92 #[.pointer (some ⟨w.heap.size + 1, 0, none⟩)] (enters_of Tryz.func92 (by kernel_rfl) rfl) W ((h.ext okInt E0).ext okInt hX)
            (fun W2 y hE hy => vD1_any y nets (w.heap.size + 1) W2 hnets (((hX.trans hE).cells _ _ b1.out.lt).trans (b1.out.cells 0))) (by omega)
          rw [any_no, a1.out] at this
          exact this
        replace cf := hid cf
        go_wp2_with (first | (go_at_call 90; refine (pinCount_any 0 3 (by decide) _).mono ?_; rintro e w2 ⟨rfl, rfl⟩) | (go_at_call 54; refine (within_any _ _ _ _).mono ?_; rintro e w2 ⟨rfl, rfl⟩) | (go_at_call 91; refine (cf.out _ E).mono ?_; rintro e w4 ⟨rfl, E4⟩; replace E := E.trans E4; clear g0 l0 g1 l1 E4; have g0 := (b0.out.ext E).cells; have l0 := (b0.out.ext E).lt; have g1 := (b1.out.ext E).cells; have l1 := (b1.out.ext E).lt))
        go_ret
        exact ⟨ret_bool hr.out, E0.trans E⟩
      | true =>
        cases a3 : wit d 1 1000000 with
        | false =>
          have hr : Hid (false = dvB ⟨0, pins, b, d⟩ nets) := by show _ = _; unfold dvB; rw [hk, d1.out, a1.out, a2, a3]; simp
          go_enter Tryz.func58, Tryz.ntmps58
          go_upto_region 1 with (fail)
          generalize hW : World.alloc (World.alloc _ _) _ = W0
          obtain ⟨E0, z0, b0, b1⟩ := boxes2 hW
          clear hW z0
          replace b0 := hid (show Blk W0 (w.heap.size) [_, _, _, _] _ from b0)
          replace b1 := hid (show Blk W0 (w.heap.size + 1) [_] _ from b1)
          have g0 := b0.out.cells
          have l0 := b0.out.lt
          have g1 := b1.out.cells
          have l1 := b1.out.lt
          have E := Ext.refl W0
          have cf : ∀ W, Ext W0 W → Calls Tryz.prog 91 #[.slice p 3 c, .func (.func 92) #[] #[.pointer (some ⟨w.heap.size + 1, 0, none⟩)]] W fun e w2 => e = .returned (.bool false) ∧ Ext W w2 := fun W hX => by
            have := containsFuncInt64D p 3 c base pins (fun y => !wit y 0 (nets - 1)) 92 #[.pointer (some ⟨w.heap.size + 1, 0, none⟩)] (enters_of Tryz.func92 (by kernel_rfl) rfl) W ((h.ext okInt E0).ext okInt hX)
              (fun W2 y hE hy => vD1_any y nets (w.heap.size + 1) W2 hnets (((hX.trans hE).cells _ _ b1.out.lt).trans (b1.out.cells 0))) (by omega)
            rw [any_no, a1.out] at this
            exact this
          replace cf := hid cf
          go_wp2_with (first | (go_at_call 90; refine (pinCount_any 0 3 (by decide) _).mono ?_; rintro e w2 ⟨rfl, rfl⟩) | (go_at_call 54; refine (within_any _ _ _ _).mono ?_; rintro e w2 ⟨rfl, rfl⟩) | (go_at_call 91; refine (cf.out _ E).mono ?_; rintro e w4 ⟨rfl, E4⟩; replace E := E.trans E4; clear g0 l0 g1 l1 E4; have g0 := (b0.out.ext E).cells; have l0 := (b0.out.ext E).lt; have g1 := (b1.out.ext E).cells; have l1 := (b1.out.ext E).lt))
          go_ret
          exact ⟨ret_bool hr.out, E0.trans E⟩
        | true =>
          have hr : Hid (true = dvB ⟨0, pins, b, d⟩ nets) := by show _ = _; unfold dvB; rw [hk, d1.out, a1.out, a2, a3]; simp
          go_enter Tryz.func58, Tryz.ntmps58
          go_upto_region 1 with (fail)
          generalize hW : World.alloc (World.alloc _ _) _ = W0
          obtain ⟨E0, z0, b0, b1⟩ := boxes2 hW
          clear hW z0
          replace b0 := hid (show Blk W0 (w.heap.size) [_, _, _, _] _ from b0)
          replace b1 := hid (show Blk W0 (w.heap.size + 1) [_] _ from b1)
          have g0 := b0.out.cells
          have l0 := b0.out.lt
          have g1 := b1.out.cells
          have l1 := b1.out.lt
          have E := Ext.refl W0
          have cf : ∀ W, Ext W0 W → Calls Tryz.prog 91 #[.slice p 3 c, .func (.func 92) #[] #[.pointer (some ⟨w.heap.size + 1, 0, none⟩)]] W fun e w2 => e = .returned (.bool false) ∧ Ext W w2 := fun W hX => by
            have := containsFuncInt64D p 3 c base pins (fun y => !wit y 0 (nets - 1)) 92 #[.pointer (some ⟨w.heap.size + 1, 0, none⟩)] (enters_of Tryz.func92 (by kernel_rfl) rfl) W ((h.ext okInt E0).ext okInt hX)
              (fun W2 y hE hy => vD1_any y nets (w.heap.size + 1) W2 hnets (((hX.trans hE).cells _ _ b1.out.lt).trans (b1.out.cells 0))) (by omega)
            rw [any_no, a1.out] at this
            exact this
          replace cf := hid cf
          go_wp2_with (first | (go_at_call 90; refine (pinCount_any 0 3 (by decide) _).mono ?_; rintro e w2 ⟨rfl, rfl⟩) | (go_at_call 54; refine (within_any _ _ _ _).mono ?_; rintro e w2 ⟨rfl, rfl⟩) | (go_at_call 91; refine (cf.out _ E).mono ?_; rintro e w4 ⟨rfl, E4⟩; replace E := E.trans E4; clear g0 l0 g1 l1 E4; have g0 := (b0.out.ext E).cells; have l0 := (b0.out.ext E).lt; have g1 := (b1.out.ext E).cells; have l1 := (b1.out.ext E).lt))
          go_ret
          exact ⟨ret_bool hr.out, E0.trans E⟩
  · have d1 : decide (pins.length = pinN 0) = false := decide_eq_false (by have := hl.out; have : pinN 0 = 3 := rfl; omega)
    have i1 : ¬ ((n : Int) = 3) := by omega
    have i2 : ((n : Int) == 3) = false := by simpa using i1
    have hr : Hid (false = dvB ⟨0, pins, b, d⟩ nets) := by show _ = _; unfold dvB; rw [hk, d1]; rfl
    clear d1
    go_enter Tryz.func58, Tryz.ntmps58
    go_upto_region 1 with (fail)
    generalize hW : World.alloc (World.alloc _ _) _ = W0
    obtain ⟨E0, z0, b0, b1⟩ := boxes2 hW
    clear hW z0
    replace b0 := hid (show Blk W0 (w.heap.size) [_, _, _, _] _ from b0)
    replace b1 := hid (show Blk W0 (w.heap.size + 1) [_] _ from b1)
    have g0 := b0.out.cells
    have l0 := b0.out.lt
    have g1 := b1.out.cells
    have l1 := b1.out.lt
    have E := Ext.refl W0
    go_wp2_with (first | (go_at_call 90; refine (pinCount_any 0 3 (by decide) _).mono ?_; rintro e w2 ⟨rfl, rfl⟩) | (go_at_call 54; refine (within_any _ _ _ _).mono ?_; rintro e w2 ⟨rfl, rfl⟩))
    go_ret
    exact ⟨ret_bool hr.out, E0.trans E⟩

set_option maxRecDepth 100000 in
set_option maxHeartbeats 4000000 in
theorem rDev0 (b d nets : Int) (pins : List Int) (p : Option Addr) (n c base : Nat) (w : World) (h : SlD (Fl enc1) 1 base w p n pins) (hn : n ≤ 9223372036854775807) (hnets : 0 ≤ nets ∧ nets ≤ 24) :
    Calls Tryz.prog 41 #[.agg #[.int .i64 0, .slice p n c, .int .i64 b, .int .i64 d], .int .i64 nets] w fun e w' => e = .returned (.bool (dvB ⟨0, pins, b, d⟩ nets)) ∧ Ext w w' := by
  have hl := hid h.length
  have hk : wit 0 0 2 = true := by decide
  by_cases m1 : n = 3
  · have d1 : Hid (decide (pins.length = pinN 0) = true) := decide_eq_true (by have := hl.out; have : pinN 0 = 3 := rfl; omega)
    subst m1
    cases a2 : wit b 1 1000000 with
    | false =>
      have hr : Hid (false = dvB ⟨0, pins, b, d⟩ nets) := by show _ = _; unfold dvB; rw [hk, d1.out, a2]; simp
      go_enter Tryz.func41, Tryz.ntmps41
      go_upto_region 1 with (fail)
      generalize hW : World.alloc _ _ = W0
      obtain ⟨E0, z0, b0⟩ := boxes1 hW
      clear hW z0
      replace b0 := hid (show Blk W0 (w.heap.size) [_, _, _, _] _ from b0)
      have g0 := b0.out.cells
      have l0 := b0.out.lt
      have E := Ext.refl W0
      go_wp2_with (first | (go_at_call 40; refine (l16In_any _ _ _ _).mono ?_; rintro e w2 ⟨rfl, rfl⟩))
      go_ret
      exact ⟨ret_bool hr.out, E0.trans E⟩
    | true =>
      cases a3 : wit d 1 1000000 with
      | false =>
        have hr : Hid (false = dvB ⟨0, pins, b, d⟩ nets) := by show _ = _; unfold dvB; rw [hk, d1.out, a2, a3]; simp
        go_enter Tryz.func41, Tryz.ntmps41
        go_upto_region 1 with (fail)
        generalize hW : World.alloc _ _ = W0
        obtain ⟨E0, z0, b0⟩ := boxes1 hW
        clear hW z0
        replace b0 := hid (show Blk W0 (w.heap.size) [_, _, _, _] _ from b0)
        have g0 := b0.out.cells
        have l0 := b0.out.lt
        have E := Ext.refl W0
        go_wp2_with (first | (go_at_call 40; refine (l16In_any _ _ _ _).mono ?_; rintro e w2 ⟨rfl, rfl⟩))
        go_ret
        exact ⟨ret_bool hr.out, E0.trans E⟩
      | true =>
        go_enter Tryz.func41, Tryz.ntmps41
        go_upto_region 1 with (fail)
        generalize hW : World.alloc _ _ = W0
        obtain ⟨E0, z0, b0⟩ := boxes1 hW
        clear hW z0
        replace b0 := hid (show Blk W0 (w.heap.size) [_, _, _, _] _ from b0)
        have g0 := b0.out.cells
        have l0 := b0.out.lt
        have E := Ext.refl W0
        go_wp2_with (first | (go_at_call 40; refine (l16In_any _ _ _ _).mono ?_; rintro e w2 ⟨rfl, rfl⟩))
        go_loopw [6] (fun i wr => ∃ k : Nat, k ≤ 3 ∧ i = .int .i64 k ∧ Ext W0 wr ∧ Hid ((pins.take k).all (wit · 0 (nets - 1)) = true)) (fun i _ => 3 - (intOf i).toNat)
        case atStart => exact ⟨0, by omega, rfl, E, rfl⟩
        case round =>
          clear g0 l0 E
          obtain ⟨j, hj, rfl, E, hA⟩ := hrel
          have g0 := (b0.out.ext E).cells
          have l0 := (b0.out.ext E).lt
          by_cases hlt : j < 3
          · have hltI : (j : Int) < 3 := by omega
            obtain ⟨b', off, y, cs, rfl, hb', hx, hcs, hc⟩ := ((h.ext okInt E0).ext okInt E).get hlt
            obtain rfl : cs = enc1 y := hcs
            have y0 := hc 0 _ rfl
            rw [Nat.add_zero, Nat.mul_one] at y0
            clear hc
            cases hq : wit y 0 (nets - 1) with
            | false =>
              have a1 : pins.all (wit · 0 (nets - 1)) = false := all_no hx.out hq
              have hr : Hid (false = dvB ⟨0, pins, b, d⟩ nets) := by show _ = _; unfold dvB; rw [hk, d1.out, a1]; simp
              clear a1
              go_wp2_with (first | (go_at_call 40; refine (l16In_any _ _ _ _).mono ?_; rintro e w2 ⟨rfl, rfl⟩))
              go_ret
              exact ⟨ret_bool hr.out, E0.trans E⟩
            | true =>
              have hr := hid (all_snoc hA.out hx.out hq)
              go_wp2_with (first | (go_at_call 40; refine (l16In_any _ _ _ _).mono ?_; rintro e w2 ⟨rfl, rfl⟩))
              go_roundw
              case rel => exact ⟨j + 1, by omega, by go_num, E, hr⟩
              case measure => simp [intOf]; omega
          · have a1 : Hid (pins.all (wit · 0 (nets - 1)) = true) := all_fin hA.out hl.out (by omega)
            clear hA
            have hr : Hid (true = dvB ⟨0, pins, b, d⟩ nets) := by show _ = _; unfold dvB; rw [hk, d1.out, a1.out, a2, a3]; simp
            go_wp2_with (first | (go_at_call 40; refine (l16In_any _ _ _ _).mono ?_; rintro e w2 ⟨rfl, rfl⟩))
            go_ret
            exact ⟨ret_bool hr.out, E0.trans E⟩
  · have d1 : decide (pins.length = pinN 0) = false := decide_eq_false (by have := hl.out; have : pinN 0 = 3 := rfl; omega)
    have i1 : ¬ ((n : Int) = 3) := by omega
    have i2 : ((n : Int) == 3) = false := by simpa using i1
    have hr : Hid (false = dvB ⟨0, pins, b, d⟩ nets) := by show _ = _; unfold dvB; rw [hk, d1]; rfl
    clear d1
    go_enter Tryz.func41, Tryz.ntmps41
    go_upto_region 1 with (fail)
    generalize hW : World.alloc _ _ = W0
    obtain ⟨E0, z0, b0⟩ := boxes1 hW
    clear hW z0
    replace b0 := hid (show Blk W0 (w.heap.size) [_, _, _, _] _ from b0)
    have g0 := b0.out.cells
    have l0 := b0.out.lt
    have E := Ext.refl W0
    go_wp2_with (first | (go_at_call 40; refine (l16In_any _ _ _ _).mono ?_; rintro e w2 ⟨rfl, rfl⟩))
    go_ret
    exact ⟨ret_bool hr.out, E0.trans E⟩

set_option maxRecDepth 100000 in
set_option maxHeartbeats 4000000 in
theorem pDev1 (b d nets : Int) (pins : List Int) (p : Option Addr) (n c base : Nat) (w : World) (h : SlD (Fl enc1) 1 base w p n pins) (hn : n ≤ 9223372036854775807) (hnets : 0 ≤ nets ∧ nets ≤ 24) :
    Calls Tryz.prog 58 #[.agg #[.int .i64 1, .slice p n c, .int .i64 b, .int .i64 d], .int .i64 nets] w fun e w' => e = .returned (.bool (dvB ⟨1, pins, b, d⟩ nets)) ∧ Ext w w' := by
  have hl := hid h.length
  have hk : wit 1 0 2 = true := by decide
  by_cases m1 : n = 3
  · have d1 : Hid (decide (pins.length = pinN 1) = true) := decide_eq_true (by have := hl.out; have : pinN 1 = 3 := rfl; omega)
    subst m1
    cases a1 : pins.all (wit · 0 (nets - 1)) with
    | false =>
      have hr : Hid (false = dvB ⟨1, pins, b, d⟩ nets) := by show _ = _; unfold dvB; rw [hk, d1.out, a1]; simp
      go_enter Tryz.func58, Tryz.ntmps58
      go_upto_region 1 with (fail)
      generalize hW : World.alloc (World.alloc _ _) _ = W0
      obtain ⟨E0, z0, b0, b1⟩ := boxes2 hW
      clear hW z0
      replace b0 := hid (show Blk W0 (w.heap.size) [_, _, _, _] _ from b0)
      replace b1 := hid (show Blk W0 (w.heap.size + 1) [_] _ from b1)
      have g0 := b0.out.cells
      have l0 := b0.out.lt
      have g1 := b1.out.cells
      have l1 := b1.out.lt
      have E := Ext.refl W0
      have cf : ∀ W, Ext W0 W → Calls Tryz.prog 91 #[.slice p 3 c, .func (.func 92) #[] #[.pointer (some ⟨w.heap.size + 1, 0, none⟩)]] W fun e w2 => e = .returned (.bool true) ∧ Ext W w2 := fun W hX => by
        have := containsFuncInt64D p 3 c base pins (fun y => !wit y 0 (nets - 1)) 92 #[.pointer (some ⟨w.heap.size + 1, 0, none⟩)] (enters_of Tryz.func92 (by kernel_rfl) rfl) W ((h.ext okInt E0).ext okInt hX)
          (fun W2 y hE hy => vD1_any y nets (w.heap.size + 1) W2 hnets (((hX.trans hE).cells _ _ b1.out.lt).trans (b1.out.cells 0))) (by omega)
        rw [any_no, a1] at this
        exact this
      replace cf := hid cf
      go_wp2_with (first | (go_at_call 90; refine (pinCount_any 1 3 (by decide) _).mono ?_; rintro e w2 ⟨rfl, rfl⟩) | (go_at_call 54; refine (within_any _ _ _ _).mono ?_; rintro e w2 ⟨rfl, rfl⟩) | (go_at_call 91; refine (cf.out _ E).mono ?_; rintro e w4 ⟨rfl, E4⟩; replace E := E.trans E4; clear g0 l0 g1 l1 E4; have g0 := (b0.out.ext E).cells; have l0 := (b0.out.ext E).lt; have g1 := (b1.out.ext E).cells; have l1 := (b1.out.ext E).lt))
      go_ret
      exact ⟨ret_bool hr.out, E0.trans E⟩
    | true =>
      replace a1 := hid a1
      cases a2 : wit b 1 1000000 with
      | false =>
        have hr : Hid (false = dvB ⟨1, pins, b, d⟩ nets) := by show _ = _; unfold dvB; rw [hk, d1.out, a1.out, a2]; simp
        go_enter Tryz.func58, Tryz.ntmps58
        go_upto_region 1 with (fail)
        generalize hW : World.alloc (World.alloc _ _) _ = W0
        obtain ⟨E0, z0, b0, b1⟩ := boxes2 hW
        clear hW z0
        replace b0 := hid (show Blk W0 (w.heap.size) [_, _, _, _] _ from b0)
        replace b1 := hid (show Blk W0 (w.heap.size + 1) [_] _ from b1)
        have g0 := b0.out.cells
        have l0 := b0.out.lt
        have g1 := b1.out.cells
        have l1 := b1.out.lt
        have E := Ext.refl W0
        have cf : ∀ W, Ext W0 W → Calls Tryz.prog 91 #[.slice p 3 c, .func (.func 92) #[] #[.pointer (some ⟨w.heap.size + 1, 0, none⟩)]] W fun e w2 => e = .returned (.bool false) ∧ Ext W w2 := fun W hX => by
          have := containsFuncInt64D p 3 c base pins (fun y => !wit y 0 (nets - 1)) 92 #[.pointer (some ⟨w.heap.size + 1, 0, none⟩)] (enters_of Tryz.func92 (by kernel_rfl) rfl) W ((h.ext okInt E0).ext okInt hX)
            (fun W2 y hE hy => vD1_any y nets (w.heap.size + 1) W2 hnets (((hX.trans hE).cells _ _ b1.out.lt).trans (b1.out.cells 0))) (by omega)
          rw [any_no, a1.out] at this
          exact this
        replace cf := hid cf
        go_wp2_with (first | (go_at_call 90; refine (pinCount_any 1 3 (by decide) _).mono ?_; rintro e w2 ⟨rfl, rfl⟩) | (go_at_call 54; refine (within_any _ _ _ _).mono ?_; rintro e w2 ⟨rfl, rfl⟩) | (go_at_call 91; refine (cf.out _ E).mono ?_; rintro e w4 ⟨rfl, E4⟩; replace E := E.trans E4; clear g0 l0 g1 l1 E4; have g0 := (b0.out.ext E).cells; have l0 := (b0.out.ext E).lt; have g1 := (b1.out.ext E).cells; have l1 := (b1.out.ext E).lt))
        go_ret
        exact ⟨ret_bool hr.out, E0.trans E⟩
      | true =>
        cases a3 : wit d 1 1000000 with
        | false =>
          have hr : Hid (false = dvB ⟨1, pins, b, d⟩ nets) := by show _ = _; unfold dvB; rw [hk, d1.out, a1.out, a2, a3]; simp
          go_enter Tryz.func58, Tryz.ntmps58
          go_upto_region 1 with (fail)
          generalize hW : World.alloc (World.alloc _ _) _ = W0
          obtain ⟨E0, z0, b0, b1⟩ := boxes2 hW
          clear hW z0
          replace b0 := hid (show Blk W0 (w.heap.size) [_, _, _, _] _ from b0)
          replace b1 := hid (show Blk W0 (w.heap.size + 1) [_] _ from b1)
          have g0 := b0.out.cells
          have l0 := b0.out.lt
          have g1 := b1.out.cells
          have l1 := b1.out.lt
          have E := Ext.refl W0
          have cf : ∀ W, Ext W0 W → Calls Tryz.prog 91 #[.slice p 3 c, .func (.func 92) #[] #[.pointer (some ⟨w.heap.size + 1, 0, none⟩)]] W fun e w2 => e = .returned (.bool false) ∧ Ext W w2 := fun W hX => by
            have := containsFuncInt64D p 3 c base pins (fun y => !wit y 0 (nets - 1)) 92 #[.pointer (some ⟨w.heap.size + 1, 0, none⟩)] (enters_of Tryz.func92 (by kernel_rfl) rfl) W ((h.ext okInt E0).ext okInt hX)
              (fun W2 y hE hy => vD1_any y nets (w.heap.size + 1) W2 hnets (((hX.trans hE).cells _ _ b1.out.lt).trans (b1.out.cells 0))) (by omega)
            rw [any_no, a1.out] at this
            exact this
          replace cf := hid cf
          go_wp2_with (first | (go_at_call 90; refine (pinCount_any 1 3 (by decide) _).mono ?_; rintro e w2 ⟨rfl, rfl⟩) | (go_at_call 54; refine (within_any _ _ _ _).mono ?_; rintro e w2 ⟨rfl, rfl⟩) | (go_at_call 91; refine (cf.out _ E).mono ?_; rintro e w4 ⟨rfl, E4⟩; replace E := E.trans E4; clear g0 l0 g1 l1 E4; have g0 := (b0.out.ext E).cells; have l0 := (b0.out.ext E).lt; have g1 := (b1.out.ext E).cells; have l1 := (b1.out.ext E).lt))
          go_ret
          exact ⟨ret_bool hr.out, E0.trans E⟩
        | true =>
          have hr : Hid (true = dvB ⟨1, pins, b, d⟩ nets) := by show _ = _; unfold dvB; rw [hk, d1.out, a1.out, a2, a3]; simp
          go_enter Tryz.func58, Tryz.ntmps58
          go_upto_region 1 with (fail)
          generalize hW : World.alloc (World.alloc _ _) _ = W0
          obtain ⟨E0, z0, b0, b1⟩ := boxes2 hW
          clear hW z0
          replace b0 := hid (show Blk W0 (w.heap.size) [_, _, _, _] _ from b0)
          replace b1 := hid (show Blk W0 (w.heap.size + 1) [_] _ from b1)
          have g0 := b0.out.cells
          have l0 := b0.out.lt
          have g1 := b1.out.cells
          have l1 := b1.out.lt
          have E := Ext.refl W0
          have cf : ∀ W, Ext W0 W → Calls Tryz.prog 91 #[.slice p 3 c, .func (.func 92) #[] #[.pointer (some ⟨w.heap.size + 1, 0, none⟩)]] W fun e w2 => e = .returned (.bool false) ∧ Ext W w2 := fun W hX => by
            have := containsFuncInt64D p 3 c base pins (fun y => !wit y 0 (nets - 1)) 92 #[.pointer (some ⟨w.heap.size + 1, 0, none⟩)] (enters_of Tryz.func92 (by kernel_rfl) rfl) W ((h.ext okInt E0).ext okInt hX)
              (fun W2 y hE hy => vD1_any y nets (w.heap.size + 1) W2 hnets (((hX.trans hE).cells _ _ b1.out.lt).trans (b1.out.cells 0))) (by omega)
            rw [any_no, a1.out] at this
            exact this
          replace cf := hid cf
          go_wp2_with (first | (go_at_call 90; refine (pinCount_any 1 3 (by decide) _).mono ?_; rintro e w2 ⟨rfl, rfl⟩) | (go_at_call 54; refine (within_any _ _ _ _).mono ?_; rintro e w2 ⟨rfl, rfl⟩) | (go_at_call 91; refine (cf.out _ E).mono ?_; rintro e w4 ⟨rfl, E4⟩; replace E := E.trans E4; clear g0 l0 g1 l1 E4; have g0 := (b0.out.ext E).cells; have l0 := (b0.out.ext E).lt; have g1 := (b1.out.ext E).cells; have l1 := (b1.out.ext E).lt))
          go_ret
          exact ⟨ret_bool hr.out, E0.trans E⟩
  · have d1 : decide (pins.length = pinN 1) = false := decide_eq_false (by have := hl.out; have : pinN 1 = 3 := rfl; omega)
    have i1 : ¬ ((n : Int) = 3) := by omega
    have i2 : ((n : Int) == 3) = false := by simpa using i1
    have hr : Hid (false = dvB ⟨1, pins, b, d⟩ nets) := by show _ = _; unfold dvB; rw [hk, d1]; rfl
    clear d1
    go_enter Tryz.func58, Tryz.ntmps58
    go_upto_region 1 with (fail)
    generalize hW : World.alloc (World.alloc _ _) _ = W0
    obtain ⟨E0, z0, b0, b1⟩ := boxes2 hW
    clear hW z0
    replace b0 := hid (show Blk W0 (w.heap.size) [_, _, _, _] _ from b0)
    replace b1 := hid (show Blk W0 (w.heap.size + 1) [_] _ from b1)
    have g0 := b0.out.cells
    have l0 := b0.out.lt
    have g1 := b1.out.cells
    have l1 := b1.out.lt
    have E := Ext.refl W0
    go_wp2_with (first | (go_at_call 90; refine (pinCount_any 1 3 (by decide) _).mono ?_; rintro e w2 ⟨rfl, rfl⟩) | (go_at_call 54; refine (within_any _ _ _ _).mono ?_; rintro e w2 ⟨rfl, rfl⟩))
    go_ret
    exact ⟨ret_bool hr.out, E0.trans E⟩

set_option maxRecDepth 100000 in
set_option maxHeartbeats 4000000 in
theorem rDev1 (b d nets : Int) (pins : List Int) (p : Option Addr) (n c base : Nat) (w : World) (h : SlD (Fl enc1) 1 base w p n pins) (hn : n ≤ 9223372036854775807) (hnets : 0 ≤ nets ∧ nets ≤ 24) :
    Calls Tryz.prog 41 #[.agg #[.int .i64 1, .slice p n c, .int .i64 b, .int .i64 d], .int .i64 nets] w fun e w' => e = .returned (.bool (dvB ⟨1, pins, b, d⟩ nets)) ∧ Ext w w' := by
  have hl := hid h.length
  have hk : wit 1 0 2 = true := by decide
  by_cases m1 : n = 3
  · have d1 : Hid (decide (pins.length = pinN 1) = true) := decide_eq_true (by have := hl.out; have : pinN 1 = 3 := rfl; omega)
    subst m1
    cases a2 : wit b 1 1000000 with
    | false =>
      have hr : Hid (false = dvB ⟨1, pins, b, d⟩ nets) := by show _ = _; unfold dvB; rw [hk, d1.out, a2]; simp
      go_enter Tryz.func41, Tryz.ntmps41
      go_upto_region 1 with (fail)
      generalize hW : World.alloc _ _ = W0
      obtain ⟨E0, z0, b0⟩ := boxes1 hW
      clear hW z0
      replace b0 := hid (show Blk W0 (w.heap.size) [_, _, _, _] _ from b0)
      have g0 := b0.out.cells
      have l0 := b0.out.lt
      have E := Ext.refl W0
      go_wp2_with (first | (go_at_call 40; refine (l16In_any _ _ _ _).mono ?_; rintro e w2 ⟨rfl, rfl⟩))
      go_ret
      exact ⟨ret_bool hr.out, E0.trans E⟩
    | true =>
      cases a3 : wit d 1 1000000 with
      | false =>
        have hr : Hid (false = dvB ⟨1, pins, b, d⟩ nets) := by show _ = _; unfold dvB; rw [hk, d1.out, a2, a3]; simp
        go_enter Tryz.func41, Tryz.ntmps41
        go_upto_region 1 with (fail)
        generalize hW : World.alloc _ _ = W0
        obtain ⟨E0, z0, b0⟩ := boxes1 hW
        clear hW z0
        replace b0 := hid (show Blk W0 (w.heap.size) [_, _, _, _] _ from b0)
        have g0 := b0.out.cells
        have l0 := b0.out.lt
        have E := Ext.refl W0
        go_wp2_with (first | (go_at_call 40; refine (l16In_any _ _ _ _).mono ?_; rintro e w2 ⟨rfl, rfl⟩))
        go_ret
        exact ⟨ret_bool hr.out, E0.trans E⟩
      | true =>
        go_enter Tryz.func41, Tryz.ntmps41
        go_upto_region 1 with (fail)
        generalize hW : World.alloc _ _ = W0
        obtain ⟨E0, z0, b0⟩ := boxes1 hW
        clear hW z0
        replace b0 := hid (show Blk W0 (w.heap.size) [_, _, _, _] _ from b0)
        have g0 := b0.out.cells
        have l0 := b0.out.lt
        have E := Ext.refl W0
        go_wp2_with (first | (go_at_call 40; refine (l16In_any _ _ _ _).mono ?_; rintro e w2 ⟨rfl, rfl⟩))
        go_loopw [6] (fun i wr => ∃ k : Nat, k ≤ 3 ∧ i = .int .i64 k ∧ Ext W0 wr ∧ Hid ((pins.take k).all (wit · 0 (nets - 1)) = true)) (fun i _ => 3 - (intOf i).toNat)
        case atStart => exact ⟨0, by omega, rfl, E, rfl⟩
        case round =>
          clear g0 l0 E
          obtain ⟨j, hj, rfl, E, hA⟩ := hrel
          have g0 := (b0.out.ext E).cells
          have l0 := (b0.out.ext E).lt
          by_cases hlt : j < 3
          · have hltI : (j : Int) < 3 := by omega
            obtain ⟨b', off, y, cs, rfl, hb', hx, hcs, hc⟩ := ((h.ext okInt E0).ext okInt E).get hlt
            obtain rfl : cs = enc1 y := hcs
            have y0 := hc 0 _ rfl
            rw [Nat.add_zero, Nat.mul_one] at y0
            clear hc
            cases hq : wit y 0 (nets - 1) with
            | false =>
              have a1 : pins.all (wit · 0 (nets - 1)) = false := all_no hx.out hq
              have hr : Hid (false = dvB ⟨1, pins, b, d⟩ nets) := by show _ = _; unfold dvB; rw [hk, d1.out, a1]; simp
              clear a1
              go_wp2_with (first | (go_at_call 40; refine (l16In_any _ _ _ _).mono ?_; rintro e w2 ⟨rfl, rfl⟩))
              go_ret
              exact ⟨ret_bool hr.out, E0.trans E⟩
            | true =>
              have hr := hid (all_snoc hA.out hx.out hq)
              go_wp2_with (first | (go_at_call 40; refine (l16In_any _ _ _ _).mono ?_; rintro e w2 ⟨rfl, rfl⟩))
              go_roundw
              case rel => exact ⟨j + 1, by omega, by go_num, E, hr⟩
              case measure => simp [intOf]; omega
          · have a1 : Hid (pins.all (wit · 0 (nets - 1)) = true) := all_fin hA.out hl.out (by omega)
            clear hA
            have hr : Hid (true = dvB ⟨1, pins, b, d⟩ nets) := by show _ = _; unfold dvB; rw [hk, d1.out, a1.out, a2, a3]; simp
            go_wp2_with (first | (go_at_call 40; refine (l16In_any _ _ _ _).mono ?_; rintro e w2 ⟨rfl, rfl⟩))
            go_ret
            exact ⟨ret_bool hr.out, E0.trans E⟩
  · have d1 : decide (pins.length = pinN 1) = false := decide_eq_false (by have := hl.out; have : pinN 1 = 3 := rfl; omega)
    have i1 : ¬ ((n : Int) = 3) := by omega
    have i2 : ((n : Int) == 3) = false := by simpa using i1
    have hr : Hid (false = dvB ⟨1, pins, b, d⟩ nets) := by show _ = _; unfold dvB; rw [hk, d1]; rfl
    clear d1
    go_enter Tryz.func41, Tryz.ntmps41
    go_upto_region 1 with (fail)
    generalize hW : World.alloc _ _ = W0
    obtain ⟨E0, z0, b0⟩ := boxes1 hW
    clear hW z0
    replace b0 := hid (show Blk W0 (w.heap.size) [_, _, _, _] _ from b0)
    have g0 := b0.out.cells
    have l0 := b0.out.lt
    have E := Ext.refl W0
    go_wp2_with (first | (go_at_call 40; refine (l16In_any _ _ _ _).mono ?_; rintro e w2 ⟨rfl, rfl⟩))
    go_ret
    exact ⟨ret_bool hr.out, E0.trans E⟩

set_option maxRecDepth 100000 in
set_option maxHeartbeats 4000000 in
theorem pDev2 (b d nets : Int) (pins : List Int) (p : Option Addr) (n c base : Nat) (w : World) (h : SlD (Fl enc1) 1 base w p n pins) (hn : n ≤ 9223372036854775807) (hnets : 0 ≤ nets ∧ nets ≤ 24) :
    Calls Tryz.prog 58 #[.agg #[.int .i64 2, .slice p n c, .int .i64 b, .int .i64 d], .int .i64 nets] w fun e w' => e = .returned (.bool (dvB ⟨2, pins, b, d⟩ nets)) ∧ Ext w w' := by
  have hl := hid h.length
  have hk : wit 2 0 2 = true := by decide
  by_cases m1 : n = 2
  · have d1 : Hid (decide (pins.length = pinN 2) = true) := decide_eq_true (by have := hl.out; have : pinN 2 = 2 := rfl; omega)
    subst m1
    cases a1 : pins.all (wit · 0 (nets - 1)) with
    | false =>
      have hr : Hid (false = dvB ⟨2, pins, b, d⟩ nets) := by show _ = _; unfold dvB; rw [hk, d1.out, a1]; simp
      go_enter Tryz.func58, Tryz.ntmps58
      go_upto_region 1 with (fail)
      generalize hW : World.alloc (World.alloc _ _) _ = W0
      obtain ⟨E0, z0, b0, b1⟩ := boxes2 hW
      clear hW z0
      replace b0 := hid (show Blk W0 (w.heap.size) [_, _, _, _] _ from b0)
      replace b1 := hid (show Blk W0 (w.heap.size + 1) [_] _ from b1)
      have g0 := b0.out.cells
      have l0 := b0.out.lt
      have g1 := b1.out.cells
      have l1 := b1.out.lt
      have E := Ext.refl W0
      have cf : ∀ W, Ext W0 W → Calls Tryz.prog 91 #[.slice p 2 c, .func (.func 92) #[] #[.pointer (some ⟨w.heap.size + 1, 0, none⟩)]] W fun e w2 => e = .returned (.bool true) ∧ Ext W w2 := fun W hX => by
        have := containsFuncInt64D p 2 c base pins (fun y => !wit y 0 (nets - 1)) 92 #[.pointer (some ⟨w.heap.size + 1, 0, none⟩)] (enters_of Tryz.func92 (by kernel_rfl) rfl) W ((h.ext okInt E0).ext okInt hX)
          (fun W2 y hE hy => vD1_any y nets (w.heap.size + 1) W2 hnets (((hX.trans hE).cells _ _ b1.out.lt).trans (b1.out.cells 0))) (by omega)
        rw [any_no, a1] at this
        exact this
      replace cf := hid cf
      go_wp2_with (first | (go_at_call 90; refine (pinCount_any 2 2 (by decide) _).mono ?_; rintro e w2 ⟨rfl, rfl⟩) | (go_at_call 54; refine (within_any _ _ _ _).mono ?_; rintro e w2 ⟨rfl, rfl⟩) | (go_at_call 91; refine (cf.out _ E).mono ?_; rintro e w4 ⟨rfl, E4⟩; replace E := E.trans E4; clear g0 l0 g1 l1 E4; have g0 := (b0.out.ext E).cells; have l0 := (b0.out.ext E).lt; have g1 := (b1.out.ext E).cells; have l1 := (b1.out.ext E).lt))
      go_ret
      exact ⟨ret_bool hr.out, E0.trans E⟩
    | true =>
      replace a1 := hid a1
      cases a2 : wit b 1 1000000 with
      | false =>
        have hr : Hid (false = dvB ⟨2, pins, b, d⟩ nets) := by show _ = _; unfold dvB; rw [hk, d1.out, a1.out, a2]; simp
        go_enter Tryz.func58, Tryz.ntmps58
        go_upto_region 1 with (fail)
        generalize hW : World.alloc (World.alloc _ _) _ = W0
        obtain ⟨E0, z0, b0, b1⟩ := boxes2 hW
        clear hW z0
        replace b0 := hid (show Blk W0 (w.heap.size) [_, _, _, _] _ from b0)
        replace b1 := hid (show Blk W0 (w.heap.size + 1) [_] _ from b1)
        have g0 := b0.out.cells
        have l0 := b0.out.lt
        have g1 := b1.out.cells
        have l1 := b1.out.lt
        have E := Ext.refl W0
        have cf : ∀ W, Ext W0 W → Calls Tryz.prog 91 #[.slice p 2 c, .func (.func 92) #[] #[.pointer (some ⟨w.heap.size + 1, 0, none⟩)]] W fun e w2 => e = .returned (.bool false) ∧ Ext W w2 := fun W hX => by
          have := containsFuncInt64D p 2 c base pins (fun y => !wit y 0 (nets - 1)) 92 #[.pointer (some ⟨w.heap.size + 1, 0, none⟩)] (enters_of Tryz.func92 (by kernel_rfl) rfl) W ((h.ext okInt E0).ext okInt hX)
            (fun W2 y hE hy => vD1_any y nets (w.heap.size + 1) W2 hnets (((hX.trans hE).cells _ _ b1.out.lt).trans (b1.out.cells 0))) (by omega)
          rw [any_no, a1.out] at this
          exact this
        replace cf := hid cf
        go_wp2_with (first | (go_at_call 90; refine (pinCount_any 2 2 (by decide) _).mono ?_; rintro e w2 ⟨rfl, rfl⟩) | (go_at_call 54; refine (within_any _ _ _ _).mono ?_; rintro e w2 ⟨rfl, rfl⟩) | (go_at_call 91; refine (cf.out _ E).mono ?_; rintro e w4 ⟨rfl, E4⟩; replace E := E.trans E4; clear g0 l0 g1 l1 E4; have g0 := (b0.out.ext E).cells; have l0 := (b0.out.ext E).lt; have g1 := (b1.out.ext E).cells; have l1 := (b1.out.ext E).lt))
        go_ret
        exact ⟨ret_bool hr.out, E0.trans E⟩
      | true =>
        cases a3 : wit d 1 1000000 with
        | false =>
          have hr : Hid (false = dvB ⟨2, pins, b, d⟩ nets) := by show _ = _; unfold dvB; rw [hk, d1.out, a1.out, a2, a3]; simp
          go_enter Tryz.func58, Tryz.ntmps58
          go_upto_region 1 with (fail)
          generalize hW : World.alloc (World.alloc _ _) _ = W0
          obtain ⟨E0, z0, b0, b1⟩ := boxes2 hW
          clear hW z0
          replace b0 := hid (show Blk W0 (w.heap.size) [_, _, _, _] _ from b0)
          replace b1 := hid (show Blk W0 (w.heap.size + 1) [_] _ from b1)
          have g0 := b0.out.cells
          have l0 := b0.out.lt
          have g1 := b1.out.cells
          have l1 := b1.out.lt
          have E := Ext.refl W0
          have cf : ∀ W, Ext W0 W → Calls Tryz.prog 91 #[.slice p 2 c, .func (.func 92) #[] #[.pointer (some ⟨w.heap.size + 1, 0, none⟩)]] W fun e w2 => e = .returned (.bool false) ∧ Ext W w2 := fun W hX => by
            have := containsFuncInt64D p 2 c base pins (fun y => !wit y 0 (nets - 1)) 92 #[.pointer (some ⟨w.heap.size + 1, 0, none⟩)] (enters_of Tryz.func92 (by kernel_rfl) rfl) W ((h.ext okInt E0).ext okInt hX)
              (fun W2 y hE hy => vD1_any y nets (w.heap.size + 1) W2 hnets (((hX.trans hE).cells _ _ b1.out.lt).trans (b1.out.cells 0))) (by omega)
            rw [any_no, a1.out] at this
            exact this
          replace cf := hid cf
          go_wp2_with (first | (go_at_call 90; refine (pinCount_any 2 2 (by decide) _).mono ?_; rintro e w2 ⟨rfl, rfl⟩) | (go_at_call 54; refine (within_any _ _ _ _).mono ?_; rintro e w2 ⟨rfl, rfl⟩) | (go_at_call 91; refine (cf.out _ E).mono ?_; rintro e w4 ⟨rfl, E4⟩; replace E := E.trans E4; clear g0 l0 g1 l1 E4; have g0 := (b0.out.ext E).cells; have l0 := (b0.out.ext E).lt; have g1 := (b1.out.ext E).cells; have l1 := (b1.out.ext E).lt))
          go_ret
          exact ⟨ret_bool hr.out, E0.trans E⟩
        | true =>
          have hb1 : 1 ≤ b ∧ b ≤ 1000000 := by simpa [wit] using a2
          have hd1 : 1 ≤ d ∧ d ≤ 1000000 := by simpa [wit] using a3
          obtain ⟨b, rfl⟩ : ∃ m : Nat, b = (m : Int) := ⟨b.toNat, by omega⟩
          obtain ⟨d, rfl⟩ : ∃ m : Nat, d = (m : Int) := ⟨d.toNat, by omega⟩
          have hr : Hid (gB b d = dvB ⟨2, pins, b, d⟩ nets) := by show _ = _; unfold dvB; rw [hk, d1.out, a1.out, a2, a3]; simp
          go_enter Tryz.func58, Tryz.ntmps58
          go_upto_region 1 with (fail)
          generalize hW : World.alloc (World.alloc _ _) _ = W0
          obtain ⟨E0, z0, b0, b1⟩ := boxes2 hW
          clear hW z0
          replace b0 := hid (show Blk W0 (w.heap.size) [_, _, _, _] _ from b0)
          replace b1 := hid (show Blk W0 (w.heap.size + 1) [_] _ from b1)
          have g0 := b0.out.cells
          have l0 := b0.out.lt
          have g1 := b1.out.cells
          have l1 := b1.out.lt
          have E := Ext.refl W0
          have cf : ∀ W, Ext W0 W → Calls Tryz.prog 91 #[.slice p 2 c, .func (.func 92) #[] #[.pointer (some ⟨w.heap.size + 1, 0, none⟩)]] W fun e w2 => e = .returned (.bool false) ∧ Ext W w2 := fun W hX => by
            have := containsFuncInt64D p 2 c base pins (fun y => !wit y 0 (nets - 1)) 92 #[.pointer (some ⟨w.heap.size + 1, 0, none⟩)] (enters_of Tryz.func92 (by kernel_rfl) rfl) W ((h.ext okInt E0).ext okInt hX)
              (fun W2 y hE hy => vD1_any y nets (w.heap.size + 1) W2 hnets (((hX.trans hE).cells _ _ b1.out.lt).trans (b1.out.cells 0))) (by omega)
            rw [any_no, a1.out] at this
            exact this
          replace cf := hid cf
          go_wp2_with (first | (go_at_call 90; refine (pinCount_any 2 2 (by decide) _).mono ?_; rintro e w2 ⟨rfl, rfl⟩) | (go_at_call 54; refine (within_any _ _ _ _).mono ?_; rintro e w2 ⟨rfl, rfl⟩) | (go_at_call 91; refine (cf.out _ E).mono ?_; rintro e w4 ⟨rfl, E4⟩; replace E := E.trans E4; clear g0 l0 g1 l1 E4; have g0 := (b0.out.ext E).cells; have l0 := (b0.out.ext E).lt; have g1 := (b1.out.ext E).cells; have l1 := (b1.out.ext E).lt) | (go_at_call 93; refine (validRatio_any b d (by omega) (by omega) (by omega) _).mono ?_; rintro e w5 ⟨rfl, E5⟩; replace E := E.trans E5; clear g0 l0 g1 l1 E5; have g0 := (b0.out.ext E).cells; have l0 := (b0.out.ext E).lt; have g1 := (b1.out.ext E).cells; have l1 := (b1.out.ext E).lt))
          go_ret
          exact ⟨ret_bool hr.out, E0.trans E⟩
  · have d1 : decide (pins.length = pinN 2) = false := decide_eq_false (by have := hl.out; have : pinN 2 = 2 := rfl; omega)
    have i1 : ¬ ((n : Int) = 2) := by omega
    have i2 : ((n : Int) == 2) = false := by simpa using i1
    have hr : Hid (false = dvB ⟨2, pins, b, d⟩ nets) := by show _ = _; unfold dvB; rw [hk, d1]; rfl
    clear d1
    go_enter Tryz.func58, Tryz.ntmps58
    go_upto_region 1 with (fail)
    generalize hW : World.alloc (World.alloc _ _) _ = W0
    obtain ⟨E0, z0, b0, b1⟩ := boxes2 hW
    clear hW z0
    replace b0 := hid (show Blk W0 (w.heap.size) [_, _, _, _] _ from b0)
    replace b1 := hid (show Blk W0 (w.heap.size + 1) [_] _ from b1)
    have g0 := b0.out.cells
    have l0 := b0.out.lt
    have g1 := b1.out.cells
    have l1 := b1.out.lt
    have E := Ext.refl W0
    go_wp2_with (first | (go_at_call 90; refine (pinCount_any 2 2 (by decide) _).mono ?_; rintro e w2 ⟨rfl, rfl⟩) | (go_at_call 54; refine (within_any _ _ _ _).mono ?_; rintro e w2 ⟨rfl, rfl⟩))
    go_ret
    exact ⟨ret_bool hr.out, E0.trans E⟩

set_option maxRecDepth 100000 in
set_option maxHeartbeats 4000000 in
theorem rDev2 (b d nets : Int) (pins : List Int) (p : Option Addr) (n c base : Nat) (w : World) (h : SlD (Fl enc1) 1 base w p n pins) (hn : n ≤ 9223372036854775807) (hnets : 0 ≤ nets ∧ nets ≤ 24) :
    Calls Tryz.prog 41 #[.agg #[.int .i64 2, .slice p n c, .int .i64 b, .int .i64 d], .int .i64 nets] w fun e w' => e = .returned (.bool (dvB ⟨2, pins, b, d⟩ nets)) ∧ Ext w w' := by
  have hl := hid h.length
  have hk : wit 2 0 2 = true := by decide
  by_cases m1 : n = 2
  · have d1 : Hid (decide (pins.length = pinN 2) = true) := decide_eq_true (by have := hl.out; have : pinN 2 = 2 := rfl; omega)
    subst m1
    cases a2 : wit b 1 1000000 with
    | false =>
      have hr : Hid (false = dvB ⟨2, pins, b, d⟩ nets) := by show _ = _; unfold dvB; rw [hk, d1.out, a2]; simp
      go_enter Tryz.func41, Tryz.ntmps41
      go_upto_region 1 with (fail)
      generalize hW : World.alloc _ _ = W0
      obtain ⟨E0, z0, b0⟩ := boxes1 hW
      clear hW z0
      replace b0 := hid (show Blk W0 (w.heap.size) [_, _, _, _] _ from b0)
      have g0 := b0.out.cells
      have l0 := b0.out.lt
      have E := Ext.refl W0
      go_wp2_with (first | (go_at_call 40; refine (l16In_any _ _ _ _).mono ?_; rintro e w2 ⟨rfl, rfl⟩))
      go_ret
      exact ⟨ret_bool hr.out, E0.trans E⟩
    | true =>
      cases a3 : wit d 1 1000000 with
      | false =>
        have hr : Hid (false = dvB ⟨2, pins, b, d⟩ nets) := by show _ = _; unfold dvB; rw [hk, d1.out, a2, a3]; simp
        go_enter Tryz.func41, Tryz.ntmps41
        go_upto_region 1 with (fail)
        generalize hW : World.alloc _ _ = W0
        obtain ⟨E0, z0, b0⟩ := boxes1 hW
        clear hW z0
        replace b0 := hid (show Blk W0 (w.heap.size) [_, _, _, _] _ from b0)
        have g0 := b0.out.cells
        have l0 := b0.out.lt
        have E := Ext.refl W0
        go_wp2_with (first | (go_at_call 40; refine (l16In_any _ _ _ _).mono ?_; rintro e w2 ⟨rfl, rfl⟩))
        go_ret
        exact ⟨ret_bool hr.out, E0.trans E⟩
      | true =>
        have hb1 : 1 ≤ b ∧ b ≤ 1000000 := by simpa [wit] using a2
        have hd1 : 1 ≤ d ∧ d ≤ 1000000 := by simpa [wit] using a3
        obtain ⟨b, rfl⟩ : ∃ m : Nat, b = (m : Int) := ⟨b.toNat, by omega⟩
        obtain ⟨d, rfl⟩ : ∃ m : Nat, d = (m : Int) := ⟨d.toNat, by omega⟩
        go_enter Tryz.func41, Tryz.ntmps41
        go_upto_region 1 with (fail)
        generalize hW : World.alloc _ _ = W0
        obtain ⟨E0, z0, b0⟩ := boxes1 hW
        clear hW z0
        replace b0 := hid (show Blk W0 (w.heap.size) [_, _, _, _] _ from b0)
        have g0 := b0.out.cells
        have l0 := b0.out.lt
        have E := Ext.refl W0
        go_wp2_with (first | (go_at_call 40; refine (l16In_any _ _ _ _).mono ?_; rintro e w2 ⟨rfl, rfl⟩))
        go_loopw [6] (fun i wr => ∃ k : Nat, k ≤ 2 ∧ i = .int .i64 k ∧ Ext W0 wr ∧ Hid ((pins.take k).all (wit · 0 (nets - 1)) = true)) (fun i _ => 2 - (intOf i).toNat)
        case atStart => exact ⟨0, by omega, rfl, E, rfl⟩
        case round =>
          clear g0 l0 E
          obtain ⟨j, hj, rfl, E, hA⟩ := hrel
          have g0 := (b0.out.ext E).cells
          have l0 := (b0.out.ext E).lt
          by_cases hlt : j < 2
          · have hltI : (j : Int) < 2 := by omega
            obtain ⟨b', off, y, cs, rfl, hb', hx, hcs, hc⟩ := ((h.ext okInt E0).ext okInt E).get hlt
            obtain rfl : cs = enc1 y := hcs
            have y0 := hc 0 _ rfl
            rw [Nat.add_zero, Nat.mul_one] at y0
            clear hc
            cases hq : wit y 0 (nets - 1) with
            | false =>
              have a1 : pins.all (wit · 0 (nets - 1)) = false := all_no hx.out hq
              have hr : Hid (false = dvB ⟨2, pins, b, d⟩ nets) := by show _ = _; unfold dvB; rw [hk, d1.out, a1]; simp
              clear a1
              go_wp2_with (first | (go_at_call 40; refine (l16In_any _ _ _ _).mono ?_; rintro e w2 ⟨rfl, rfl⟩))
              go_ret
              exact ⟨ret_bool hr.out, E0.trans E⟩
            | true =>
              have hr := hid (all_snoc hA.out hx.out hq)
              go_wp2_with (first | (go_at_call 40; refine (l16In_any _ _ _ _).mono ?_; rintro e w2 ⟨rfl, rfl⟩))
              go_roundw
              case rel => exact ⟨j + 1, by omega, by go_num, E, hr⟩
              case measure => simp [intOf]; omega
          · have a1 : Hid (pins.all (wit · 0 (nets - 1)) = true) := all_fin hA.out hl.out (by omega)
            clear hA
            have hr0 : Hid (gB b d = dvB ⟨2, pins, b, d⟩ nets) := by show _ = _; unfold dvB; rw [hk, d1.out, a1.out, a2, a3]; simp
            have hr1 : Hid (((Nat.gcd b d : Nat) : Int) = 1 ↔ gB b d = true) := by
              show _ ↔ _
              unfold gB
              rw [Int.toNat_natCast, Int.toNat_natCast, decide_eq_true_iff]
              omega
            have hr2 : Hid (∀ v : Bool, (v = true ↔ ((Nat.gcd b d : Nat) : Int) = 1) → v = dvB ⟨2, pins, b, d⟩ nets) := fun v h => (Bool.eq_iff_iff.2 (h.trans hr1.out)).trans hr0.out
            obtain ⟨gv, hgv⟩ : ∃ gv : Int, gv = ((Nat.gcd b d : Nat) : Int) := ⟨_, rfl⟩
            have hcg := fun W => l26Gcd_any b d (by omega) (by omega) W
            rw [← hgv] at hcg hr2
            replace hcg := hid hcg
            clear hr0 hr1 hgv
            go_wp2_with (first | (go_at_call 40; refine (l16In_any _ _ _ _).mono ?_; rintro e w2 ⟨rfl, rfl⟩) | (go_at_call 75; refine (hcg.out _).mono ?_; rintro e w5 ⟨rfl, E5⟩; replace E := E.trans E5; clear g0 l0 E5; have g0 := (b0.out.ext E).cells; have l0 := (b0.out.ext E).lt))
            go_ret
            exact ⟨ret_bool (hr2.out _ (by simp)), E0.trans E⟩
  · have d1 : decide (pins.length = pinN 2) = false := decide_eq_false (by have := hl.out; have : pinN 2 = 2 := rfl; omega)
    have i1 : ¬ ((n : Int) = 2) := by omega
    have i2 : ((n : Int) == 2) = false := by simpa using i1
    have hr : Hid (false = dvB ⟨2, pins, b, d⟩ nets) := by show _ = _; unfold dvB; rw [hk, d1]; rfl
    clear d1
    go_enter Tryz.func41, Tryz.ntmps41
    go_upto_region 1 with (fail)
    generalize hW : World.alloc _ _ = W0
    obtain ⟨E0, z0, b0⟩ := boxes1 hW
    clear hW z0
    replace b0 := hid (show Blk W0 (w.heap.size) [_, _, _, _] _ from b0)
    have g0 := b0.out.cells
    have l0 := b0.out.lt
    have E := Ext.refl W0
    go_wp2_with (first | (go_at_call 40; refine (l16In_any _ _ _ _).mono ?_; rintro e w2 ⟨rfl, rfl⟩))
    go_ret
    exact ⟨ret_bool hr.out, E0.trans E⟩

set_option maxRecDepth 100000 in
set_option maxHeartbeats 4000000 in
theorem pDevice_any (a : Int) (b d nets : Int) (pins : List Int) (p : Option Addr) (n c base : Nat) (w : World) (h : SlD (Fl enc1) 1 base w p n pins) (hn : n ≤ 9223372036854775807) (hnets : 0 ≤ nets ∧ nets ≤ 24) :
    Calls Tryz.prog 58 #[.agg #[.int .i64 a, .slice p n c, .int .i64 b, .int .i64 d], .int .i64 nets] w fun e w' => e = .returned (.bool (dvB ⟨a, pins, b, d⟩ nets)) ∧ Ext w w' := by
  cases hk : wit a 0 2 with
  | false =>
    have hout : ¬ (0 ≤ a ∧ a ≤ 2) := by intro hh; simp [wit, hh.1, hh.2] at hk
    have q2 : (a == 2) = false := by simp; omega
    have hr : Hid (false = dvB ⟨a, pins, b, d⟩ nets) := by show _ = _; unfold dvB; rw [hk]; rfl
    go_enter Tryz.func58, Tryz.ntmps58
    go_upto_region 1 with (fail)
    generalize hW : World.alloc (World.alloc _ _) _ = W0
    obtain ⟨E0, z0, b0, b1⟩ := boxes2 hW
    clear hW z0
    replace b0 := hid (show Blk W0 (w.heap.size) [_, _, _, _] _ from b0)
    replace b1 := hid (show Blk W0 (w.heap.size + 1) [_] _ from b1)
    have g0 := b0.out.cells
    have l0 := b0.out.lt
    have g1 := b1.out.cells
    have l1 := b1.out.lt
    have E := Ext.refl W0
    go_wp2_with (first | (go_at_call 90; refine (pinCount_any a 0 (Or.inr (Or.inr ⟨hout, rfl⟩)) _).mono ?_; rintro e w2 ⟨rfl, rfl⟩) | (go_at_call 54; refine (within_any _ _ _ _).mono ?_; rintro e w2 ⟨rfl, rfl⟩))
    go_ret
    exact ⟨ret_bool hr.out, E0.trans E⟩
  | true =>
    have h' : 0 ≤ a ∧ a ≤ 2 := by simpa [wit] using hk
    have h3 : a = 0 ∨ a = 1 ∨ a = 2 := by omega
    rcases h3 with rfl | rfl | rfl
    · exact pDev0 b d nets pins p n c base w h hn hnets
    · exact pDev1 b d nets pins p n c base w h hn hnets
    · exact pDev2 b d nets pins p n c base w h hn hnets

set_option maxRecDepth 100000 in
set_option maxHeartbeats 4000000 in
theorem rDevice_any (a : Int) (b d nets : Int) (pins : List Int) (p : Option Addr) (n c base : Nat) (w : World) (h : SlD (Fl enc1) 1 base w p n pins) (hn : n ≤ 9223372036854775807) (hnets : 0 ≤ nets ∧ nets ≤ 24) :
    Calls Tryz.prog 41 #[.agg #[.int .i64 a, .slice p n c, .int .i64 b, .int .i64 d], .int .i64 nets] w fun e w' => e = .returned (.bool (dvB ⟨a, pins, b, d⟩ nets)) ∧ Ext w w' := by
  cases hk : wit a 0 2 with
  | false =>
    have hout : ¬ (0 ≤ a ∧ a ≤ 2) := by intro hh; simp [wit, hh.1, hh.2] at hk
    have q2 : (a == 2) = false := by simp; omega
    have hr : Hid (false = dvB ⟨a, pins, b, d⟩ nets) := by show _ = _; unfold dvB; rw [hk]; rfl
    go_enter Tryz.func41, Tryz.ntmps41
    go_upto_region 1 with (fail)
    generalize hW : World.alloc _ _ = W0
    obtain ⟨E0, z0, b0⟩ := boxes1 hW
    clear hW z0
    replace b0 := hid (show Blk W0 (w.heap.size) [_, _, _, _] _ from b0)
    have g0 := b0.out.cells
    have l0 := b0.out.lt
    have E := Ext.refl W0
    go_wp2_with (first | (go_at_call 40; refine (l16In_any _ _ _ _).mono ?_; rintro e w2 ⟨rfl, rfl⟩))
    go_ret
    exact ⟨ret_bool hr.out, E0.trans E⟩
  | true =>
    have h' : 0 ≤ a ∧ a ≤ 2 := by simpa [wit] using hk
    have h3 : a = 0 ∨ a = 1 ∨ a = 2 := by omega
    rcases h3 with rfl | rfl | rfl
    · exact rDev0 b d nets pins p n c base w h hn hnets
    · exact rDev1 b d nets pins p n c base w h hn hnets
    · exact rDev2 b d nets pins p n c base w h hn hnets

end Go.Proofs.YtajlkanocngdfaaGreat
