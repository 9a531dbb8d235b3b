/- Validity of cells, program and reference. Condition: lengths that fit. -/
import Derived.Test.YtncmhefendhinaaGreatDoorVfl
import Derived.Test.YtncmhefendhinaaGreatDoorVfn
import Derived.Test.YtncmhefendhinaaGreatDoorDsz
namespace Go.Proofs.YtncmhefendhinaaGreatDoor
open Go.RowKit Go.PlainAid

theorem all_no {α : Type} {f : α → Bool} {l : List α} {k : Nat} {y : α} (hx : l[k]? = some y) (hq : f y = false) : l.all f = false := by
  rw [List.all_eq_false]
  exact ⟨y, List.mem_of_getElem? hx, by rw [hq]; simp⟩
theorem all_snoc {α : Type} {f : α → Bool} {l : List α} {k : Nat} {y : α} (h : (l.take k).all f = true) (hx : l[k]? = some y) (hq : f y = true) : (l.take (k + 1)).all f = true := by
  rw [take_snoc hx, List.all_append, h]; simp [hq]
theorem all_fin {α : Type} {f : α → Bool} {l : List α} {k n : Nat} (h : (l.take k).all f = true) (hl : l.length = n) (hk : n ≤ k) : l.all f = true := by
  rwa [take_all hl hk] at h
theorem any_no {α : Type} (f : α → Bool) (l : List α) : (l.any fun x => !f x) = !(l.all f) := by
  rw [← all_not_any f l, Bool.not_not]
def ceB (x : CeD) (k : Int) : Bool := nameB x.s && (decide (x.shs.length ≤ 24) && (decide (x.lbs.length ≤ 8) && (decide (x.ins.length ≤ 8) && (x.shs.all shB && (x.lbs.all lbB && x.ins.all (inB · k))))))

set_option maxRecDepth 100000 in
set_option maxHeartbeats 4000000 in
theorem vC1_any (x : ShD) (w : World) :
    Calls Tryz.prog 56 #[.agg #[.int .i64 x.a, .int .i64 x.box.a, .int .i64 x.box.b, .int .i64 x.box.c, .int .i64 x.box.d]] w fun e w' => e = .returned (.bool (!shB x)) ∧ Ext w w' := by
  go_enter Tryz.func56, Tryz.ntmps56
  go_upto_region 1 with (fail)
  generalize hW : World.alloc _ _ = W0
  obtain ⟨E0, z0, b0⟩ := boxes1 hW
  clear hW z0
  replace b0 := hid (show Blk W0 (w.heap.size) [_, _, _, _, _] _ from b0)
  have g0 := b0.out.cells
  have l0 := b0.out.lt
  have E := Ext.refl W0
  go_wp2_with (first | (go_at_call 57; refine (pShape_any x _).mono ?_; rintro e w3 ⟨rfl, E3⟩; replace E := E.trans E3; clear g0 l0 E3; have g0 := (b0.out.ext E).cells; have l0 := (b0.out.ext E).lt))
  go_ret
  exact ⟨rfl, E0.trans E⟩
set_option maxRecDepth 100000 in
set_option maxHeartbeats 4000000 in
theorem vC2_any (x : LbD) (w : World) (hs : x.s.size ≤ 9223372036854775807) :
    Calls Tryz.prog 59 #[.agg #[.int .i64 x.a, .int .i64 x.pt.a, .int .i64 x.pt.b, .string x.s]] w fun e w' => e = .returned (.bool (!lbB x)) ∧ Ext w w' := by
  go_enter Tryz.func59, Tryz.ntmps59
  go_upto_region 1 with (fail)
  generalize hW : World.alloc _ _ = W0
  obtain ⟨E0, z0, b0⟩ := boxes1 hW
  clear hW z0
  replace b0 := hid (show Blk W0 (w.heap.size) [_, _, _, _] _ from b0)
  have g0 := b0.out.cells
  have l0 := b0.out.lt
  have E := Ext.refl W0
  go_wp2_with (first | (go_at_call 60; refine (pLabel_any x _ hs).mono ?_; rintro e w3 ⟨rfl, E3⟩; replace E := E.trans E3; clear g0 l0 E3; have g0 := (b0.out.ext E).cells; have l0 := (b0.out.ext E).lt))
  go_ret
  exact ⟨rfl, E0.trans E⟩
set_option maxRecDepth 100000 in
set_option maxHeartbeats 4000000 in
theorem vC3_any (x : InD) (k : Int) (B : Nat) (w : World) (hk : 0 ≤ k ∧ k ≤ 1048576) (hB : B < w.heap.size) (hc : w.cell? ⟨B, 0, none⟩ = some (.int .i64 k)) :
    Calls Tryz.prog 62 #[.agg #[.int .i64 x.a, .int .i64 x.tr.a, .int .i64 x.tr.b, .int .i64 x.tr.c, .int .i64 x.c, .int .i64 x.d, .int .i64 x.e, .int .i64 x.f], .pointer (some ⟨B, 0, none⟩)] w fun e w' => e = .returned (.bool (!inB x k)) ∧ Ext w w' := by
  go_enter Tryz.func62, Tryz.ntmps62
  go_upto_region 1 with (fail)
  generalize hW : World.alloc _ _ = W0
  obtain ⟨E0, z0, b0⟩ := boxes1 hW
  clear hW z0
  replace b0 := hid (show Blk W0 (w.heap.size) [_, _, _, _, _, _, _, _] _ from b0)
  have g0 := b0.out.cells
  have l0 := b0.out.lt
  have E := Ext.refl W0
  have hc0 := (E0.cells B _ hB).trans hc
  have hB0 : B < W0.heap.size := Nat.lt_of_lt_of_le hB E0.le
  go_wp2_with (first | (go_at_call 63; refine (pInstance_any x k _ hk).mono ?_; rintro e w3 ⟨rfl, E3⟩; replace E := E.trans E3; clear g0 l0 E3; have g0 := (b0.out.ext E).cells; have l0 := (b0.out.ext E).lt))
  go_ret
  exact ⟨rfl, E0.trans E⟩
set_option maxRecDepth 100000 in
set_option maxHeartbeats 4000000 in
theorem pCell_any (x : CeD) (k : Int) (p1 p2 p3 : Option Addr) (n1 c1 n2 c2 n3 c3 base : Nat) (w : World) (s1 : SlD (Fl encSh) 5 base w p1 n1 x.shs) (s2 : SlD (Fl encLb) 4 base w p2 n2 x.lbs) (s3 : SlD (Fl encIn) 8 base w p3 n3 x.ins) (hk : 0 ≤ k ∧ k ≤ 1048576) (hf : FitCe x) :
    Calls Tryz.prog 29 #[.agg #[.string x.s, .slice p1 n1 c1, .slice p2 n2 c2, .slice p3 n3 c3], .int .i64 k] w fun e w' => e = .returned (.bool (ceB x k)) ∧ Ext w w' := by
  have hf := hid hf
  have hl1 := hid s1.length
  have hl2 := hid s2.length
  have hl3 := hid s3.length
  cases h0 : nameB x.s with
  | false =>
    have hr : Hid (false = ceB x k) := by show _ = _; unfold ceB; first | (rw [h0]; done) | (rw [h0]; rfl)
    go_enter Tryz.func29, Tryz.ntmps29
    go_upto_region 1 with (fail)
    generalize hW : World.alloc (World.alloc _ _) _ = W0
    obtain ⟨E0, z0, b0, b1⟩ := boxes2 hW
    clear hW z0
    replace b0 := hid (show Blk W0 (w.heap.size) [_, _, _, _] _ from b0)
    replace b1 := hid (show Blk W0 (w.heap.size + 1) [_] _ from b1)
    have g0 := b0.out.cells
    have l0 := b0.out.lt
    have g1 := b1.out.cells
    have l1 := b1.out.lt
    have E := Ext.refl W0
    go_wp2_with (first | (go_at_call 54; refine (pName_any x.s _ hf.out.1).mono ?_; rintro e w3 ⟨rfl, E3⟩; replace E := E.trans E3; clear g0 l0 g1 l1 E3; have g0 := (b0.out.ext E).cells; have l0 := (b0.out.ext E).lt; have g1 := (b1.out.ext E).cells; have l1 := (b1.out.ext E).lt))
    go_ret
    exact ⟨ret_bool hr.out, E0.trans E⟩
  | true =>
    by_cases m1 : 24 < n1
    · have z1 : (24 : Int) < n1 := by omega
      have d1 : decide (x.shs.length ≤ 24) = false := decide_eq_false (by have := hl1.out; omega)
      have hr : Hid (false = ceB x k) := by show _ = _; unfold ceB; first | (rw [h0, d1]; done) | (rw [h0, d1]; rfl)
      go_enter Tryz.func29, Tryz.ntmps29
      go_upto_region 1 with (fail)
      generalize hW : World.alloc (World.alloc _ _) _ = W0
      obtain ⟨E0, z0, b0, b1⟩ := boxes2 hW
      clear hW z0
      replace b0 := hid (show Blk W0 (w.heap.size) [_, _, _, _] _ from b0)
      replace b1 := hid (show Blk W0 (w.heap.size + 1) [_] _ from b1)
      have g0 := b0.out.cells
      have l0 := b0.out.lt
      have g1 := b1.out.cells
      have l1 := b1.out.lt
      have E := Ext.refl W0
      go_wp2_with (first | (go_at_call 54; refine (pName_any x.s _ hf.out.1).mono ?_; rintro e w3 ⟨rfl, E3⟩; replace E := E.trans E3; clear g0 l0 g1 l1 E3; have g0 := (b0.out.ext E).cells; have l0 := (b0.out.ext E).lt; have g1 := (b1.out.ext E).cells; have l1 := (b1.out.ext E).lt))
      go_ret
      exact ⟨ret_bool hr.out, E0.trans E⟩
    have d1 : decide (x.shs.length ≤ 24) = true := decide_eq_true (by have := hl1.out; omega)
    replace d1 := hid d1
    by_cases m2 : 8 < n2
    · have z2 : (8 : Int) < n2 := by omega
      have d2 : decide (x.lbs.length ≤ 8) = false := decide_eq_false (by have := hl2.out; omega)
      have hr : Hid (false = ceB x k) := by show _ = _; unfold ceB; first | (rw [h0, d1.out, d2]; done) | (rw [h0, d1.out, d2]; rfl)
      go_enter Tryz.func29, Tryz.ntmps29
      go_upto_region 1 with (fail)
      generalize hW : World.alloc (World.alloc _ _) _ = W0
      obtain ⟨E0, z0, b0, b1⟩ := boxes2 hW
      clear hW z0
      replace b0 := hid (show Blk W0 (w.heap.size) [_, _, _, _] _ from b0)
      replace b1 := hid (show Blk W0 (w.heap.size + 1) [_] _ from b1)
      have g0 := b0.out.cells
      have l0 := b0.out.lt
      have g1 := b1.out.cells
      have l1 := b1.out.lt
      have E := Ext.refl W0
      go_wp2_with (first | (go_at_call 54; refine (pName_any x.s _ hf.out.1).mono ?_; rintro e w3 ⟨rfl, E3⟩; replace E := E.trans E3; clear g0 l0 g1 l1 E3; have g0 := (b0.out.ext E).cells; have l0 := (b0.out.ext E).lt; have g1 := (b1.out.ext E).cells; have l1 := (b1.out.ext E).lt))
      go_ret
      exact ⟨ret_bool hr.out, E0.trans E⟩
    have d2 : decide (x.lbs.length ≤ 8) = true := decide_eq_true (by have := hl2.out; omega)
    replace d2 := hid d2
    by_cases m3 : 8 < n3
    · have z3 : (8 : Int) < n3 := by omega
      have d3 : decide (x.ins.length ≤ 8) = false := decide_eq_false (by have := hl3.out; omega)
      have hr : Hid (false = ceB x k) := by show _ = _; unfold ceB; first | (rw [h0, d1.out, d2.out, d3]; done) | (rw [h0, d1.out, d2.out, d3]; rfl)
      go_enter Tryz.func29, Tryz.ntmps29
      go_upto_region 1 with (fail)
      generalize hW : World.alloc (World.alloc _ _) _ = W0
      obtain ⟨E0, z0, b0, b1⟩ := boxes2 hW
      clear hW z0
      replace b0 := hid (show Blk W0 (w.heap.size) [_, _, _, _] _ from b0)
      replace b1 := hid (show Blk W0 (w.heap.size + 1) [_] _ from b1)
      have g0 := b0.out.cells
      have l0 := b0.out.lt
      have g1 := b1.out.cells
      have l1 := b1.out.lt
      have E := Ext.refl W0
      go_wp2_with (first | (go_at_call 54; refine (pName_any x.s _ hf.out.1).mono ?_; rintro e w3 ⟨rfl, E3⟩; replace E := E.trans E3; clear g0 l0 g1 l1 E3; have g0 := (b0.out.ext E).cells; have l0 := (b0.out.ext E).lt; have g1 := (b1.out.ext E).cells; have l1 := (b1.out.ext E).lt))
      go_ret
      exact ⟨ret_bool hr.out, E0.trans E⟩
    have d3 : decide (x.ins.length ≤ 8) = true := decide_eq_true (by have := hl3.out; omega)
    replace d3 := hid d3
    cases a1 : x.shs.all shB with
    | false =>
      have hr : Hid (false = ceB x k) := by show _ = _; unfold ceB; first | (rw [h0, d1.out, d2.out, d3.out, a1]; done) | (rw [h0, d1.out, d2.out, d3.out, a1]; rfl)
      go_enter Tryz.func29, Tryz.ntmps29
      go_upto_region 1 with (fail)
      generalize hW : World.alloc (World.alloc _ _) _ = W0
      obtain ⟨E0, z0, b0, b1⟩ := boxes2 hW
      clear hW z0
      replace b0 := hid (show Blk W0 (w.heap.size) [_, _, _, _] _ from b0)
      replace b1 := hid (show Blk W0 (w.heap.size + 1) [_] _ from b1)
      have g0 := b0.out.cells
      have l0 := b0.out.lt
      have g1 := b1.out.cells
      have l1 := b1.out.lt
      have E := Ext.refl W0
      have cf1 : ∀ W, Ext W0 W → Calls Tryz.prog 55 #[.slice p1 n1 c1, .func (.func 56) #[] #[]] W fun e w2 => e = .returned (.bool true) ∧ Ext W w2 := fun W hX => by
        have := containsFuncShapeD p1 n1 c1 base x.shs (fun y => !shB y) 56 #[] (enters_of Tryz.func56 (by kernel_rfl) rfl) W ((s1.ext okShape E0).ext okShape hX) (fun W y cs hE hy hcs => by cases hcs; exact vC1_any y W) (by omega)
        rw [any_no, a1] at this
        exact this
      replace cf1 := hid cf1
      go_wp2_with (first | (go_at_call 54; refine (pName_any x.s _ hf.out.1).mono ?_; rintro e w3 ⟨rfl, E3⟩; replace E := E.trans E3; clear g0 l0 g1 l1 E3; have g0 := (b0.out.ext E).cells; have l0 := (b0.out.ext E).lt; have g1 := (b1.out.ext E).cells; have l1 := (b1.out.ext E).lt) | (go_at_call 55; refine (cf1.out _ E).mono ?_; rintro e w4 ⟨rfl, E4⟩; replace E := E.trans E4; clear g0 l0 g1 l1 E4; have g0 := (b0.out.ext E).cells; have l0 := (b0.out.ext E).lt; have g1 := (b1.out.ext E).cells; have l1 := (b1.out.ext E).lt))
      go_ret
      exact ⟨ret_bool hr.out, E0.trans E⟩
    | true =>
      replace a1 := hid a1
      cases a2 : x.lbs.all lbB with
      | false =>
        have hr : Hid (false = ceB x k) := by show _ = _; unfold ceB; first | (rw [h0, d1.out, d2.out, d3.out, a1.out, a2]; done) | (rw [h0, d1.out, d2.out, d3.out, a1.out, a2]; rfl)
        go_enter Tryz.func29, Tryz.ntmps29
        go_upto_region 1 with (fail)
        generalize hW : World.alloc (World.alloc _ _) _ = W0
        obtain ⟨E0, z0, b0, b1⟩ := boxes2 hW
        clear hW z0
        replace b0 := hid (show Blk W0 (w.heap.size) [_, _, _, _] _ from b0)
        replace b1 := hid (show Blk W0 (w.heap.size + 1) [_] _ from b1)
        have g0 := b0.out.cells
        have l0 := b0.out.lt
        have g1 := b1.out.cells
        have l1 := b1.out.lt
        have E := Ext.refl W0
        have cf1 : ∀ W, Ext W0 W → Calls Tryz.prog 55 #[.slice p1 n1 c1, .func (.func 56) #[] #[]] W fun e w2 => e = .returned (.bool false) ∧ Ext W w2 := fun W hX => by
          have := containsFuncShapeD p1 n1 c1 base x.shs (fun y => !shB y) 56 #[] (enters_of Tryz.func56 (by kernel_rfl) rfl) W ((s1.ext okShape E0).ext okShape hX) (fun W y cs hE hy hcs => by cases hcs; exact vC1_any y W) (by omega)
          rw [any_no, a1.out] at this
          exact this
        replace cf1 := hid cf1
        have cf2 : ∀ W, Ext W0 W → Calls Tryz.prog 58 #[.slice p2 n2 c2, .func (.func 59) #[] #[]] W fun e w2 => e = .returned (.bool true) ∧ Ext W w2 := fun W hX => by
          have := containsFuncLabelD p2 n2 c2 base x.lbs (fun y => !lbB y) 59 #[] (enters_of Tryz.func59 (by kernel_rfl) rfl) W ((s2.ext okLabel E0).ext okLabel hX) (fun W y cs hE hy hcs => by cases hcs; exact vC2_any y W (hf.out.2.2.2.1 y hy)) (by omega)
          rw [any_no, a2] at this
          exact this
        replace cf2 := hid cf2
        go_wp2_with (first | (go_at_call 54; refine (pName_any x.s _ hf.out.1).mono ?_; rintro e w3 ⟨rfl, E3⟩; replace E := E.trans E3; clear g0 l0 g1 l1 E3; have g0 := (b0.out.ext E).cells; have l0 := (b0.out.ext E).lt; have g1 := (b1.out.ext E).cells; have l1 := (b1.out.ext E).lt) | (go_at_call 55; refine (cf1.out _ E).mono ?_; rintro e w4 ⟨rfl, E4⟩; replace E := E.trans E4; clear g0 l0 g1 l1 E4; have g0 := (b0.out.ext E).cells; have l0 := (b0.out.ext E).lt; have g1 := (b1.out.ext E).cells; have l1 := (b1.out.ext E).lt) | (go_at_call 58; refine (cf2.out _ E).mono ?_; rintro e w5 ⟨rfl, E5⟩; replace E := E.trans E5; clear g0 l0 g1 l1 E5; have g0 := (b0.out.ext E).cells; have l0 := (b0.out.ext E).lt; have g1 := (b1.out.ext E).cells; have l1 := (b1.out.ext E).lt))
        go_ret
        exact ⟨ret_bool hr.out, E0.trans E⟩
      | true =>
        replace a2 := hid a2
        cases a3 : x.ins.all (inB · k) with
        | false =>
          have hr : Hid (false = ceB x k) := by show _ = _; unfold ceB; first | (rw [h0, d1.out, d2.out, d3.out, a1.out, a2.out, a3]; done) | (rw [h0, d1.out, d2.out, d3.out, a1.out, a2.out, a3]; rfl)
          go_enter Tryz.func29, Tryz.ntmps29
          go_upto_region 1 with (fail)
          generalize hW : World.alloc (World.alloc _ _) _ = W0
          obtain ⟨E0, z0, b0, b1⟩ := boxes2 hW
          clear hW z0
          replace b0 := hid (show Blk W0 (w.heap.size) [_, _, _, _] _ from b0)
          replace b1 := hid (show Blk W0 (w.heap.size + 1) [_] _ from b1)
          have g0 := b0.out.cells
          have l0 := b0.out.lt
          have g1 := b1.out.cells
          have l1 := b1.out.lt
          have E := Ext.refl W0
          have cf1 : ∀ W, Ext W0 W → Calls Tryz.prog 55 #[.slice p1 n1 c1, .func (.func 56) #[] #[]] W fun e w2 => e = .returned (.bool false) ∧ Ext W w2 := fun W hX => by
            have := containsFuncShapeD p1 n1 c1 base x.shs (fun y => !shB y) 56 #[] (enters_of Tryz.func56 (by kernel_rfl) rfl) W ((s1.ext okShape E0).ext okShape hX) (fun W y cs hE hy hcs => by cases hcs; exact vC1_any y W) (by omega)
            rw [any_no, a1.out] at this
            exact this
          replace cf1 := hid cf1
          have cf2 : ∀ W, Ext W0 W → Calls Tryz.prog 58 #[.slice p2 n2 c2, .func (.func 59) #[] #[]] W fun e w2 => e = .returned (.bool false) ∧ Ext W w2 := fun W hX => by
            have := containsFuncLabelD p2 n2 c2 base x.lbs (fun y => !lbB y) 59 #[] (enters_of Tryz.func59 (by kernel_rfl) rfl) W ((s2.ext okLabel E0).ext okLabel hX) (fun W y cs hE hy hcs => by cases hcs; exact vC2_any y W (hf.out.2.2.2.1 y hy)) (by omega)
            rw [any_no, a2.out] at this
            exact this
          replace cf2 := hid cf2
          have cf3 : ∀ W, Ext W0 W → Calls Tryz.prog 61 #[.slice p3 n3 c3, .func (.func 62) #[] #[.pointer (some ⟨w.heap.size + 1, 0, none⟩)]] W fun e w2 => e = .returned (.bool true) ∧ Ext W w2 := fun W hX => by
            have := containsFuncInstanceD p3 n3 c3 base x.ins (fun y => !inB y k) 62 #[.pointer (some ⟨w.heap.size + 1, 0, none⟩)] (enters_of Tryz.func62 (by kernel_rfl) rfl) W ((s3.ext okInstance E0).ext okInstance hX) (fun W y cs hE hy hcs => by cases hcs; exact vC3_any y k (w.heap.size + 1) W hk (Nat.lt_of_lt_of_le b1.out.lt (hX.trans hE).le) (((hX.trans hE).cells _ _ b1.out.lt).trans (b1.out.cells 0))) (by omega)
            rw [any_no, a3] at this
            exact this
          replace cf3 := hid cf3
          go_wp2_with (first | (go_at_call 54; refine (pName_any x.s _ hf.out.1).mono ?_; rintro e w3 ⟨rfl, E3⟩; replace E := E.trans E3; clear g0 l0 g1 l1 E3; have g0 := (b0.out.ext E).cells; have l0 := (b0.out.ext E).lt; have g1 := (b1.out.ext E).cells; have l1 := (b1.out.ext E).lt) | (go_at_call 55; refine (cf1.out _ E).mono ?_; rintro e w4 ⟨rfl, E4⟩; replace E := E.trans E4; clear g0 l0 g1 l1 E4; have g0 := (b0.out.ext E).cells; have l0 := (b0.out.ext E).lt; have g1 := (b1.out.ext E).cells; have l1 := (b1.out.ext E).lt) | (go_at_call 58; refine (cf2.out _ E).mono ?_; rintro e w5 ⟨rfl, E5⟩; replace E := E.trans E5; clear g0 l0 g1 l1 E5; have g0 := (b0.out.ext E).cells; have l0 := (b0.out.ext E).lt; have g1 := (b1.out.ext E).cells; have l1 := (b1.out.ext E).lt) | (go_at_call 61; refine (cf3.out _ E).mono ?_; rintro e w6 ⟨rfl, E6⟩; replace E := E.trans E6; clear g0 l0 g1 l1 E6; have g0 := (b0.out.ext E).cells; have l0 := (b0.out.ext E).lt; have g1 := (b1.out.ext E).cells; have l1 := (b1.out.ext E).lt))
          go_ret
          exact ⟨ret_bool hr.out, E0.trans E⟩
        | true =>
          replace a3 := hid a3
          have hr : Hid (true = ceB x k) := by show _ = _; unfold ceB; first | (rw [h0, d1.out, d2.out, d3.out, a1.out, a2.out, a3.out]; done) | (rw [h0, d1.out, d2.out, d3.out, a1.out, a2.out, a3.out]; rfl)
          go_enter Tryz.func29, Tryz.ntmps29
          go_upto_region 1 with (fail)
          generalize hW : World.alloc (World.alloc _ _) _ = W0
          obtain ⟨E0, z0, b0, b1⟩ := boxes2 hW
          clear hW z0
          replace b0 := hid (show Blk W0 (w.heap.size) [_, _, _, _] _ from b0)
          replace b1 := hid (show Blk W0 (w.heap.size + 1) [_] _ from b1)
          have g0 := b0.out.cells
          have l0 := b0.out.lt
          have g1 := b1.out.cells
          have l1 := b1.out.lt
          have E := Ext.refl W0
          have cf1 : ∀ W, Ext W0 W → Calls Tryz.prog 55 #[.slice p1 n1 c1, .func (.func 56) #[] #[]] W fun e w2 => e = .returned (.bool false) ∧ Ext W w2 := fun W hX => by
            have := containsFuncShapeD p1 n1 c1 base x.shs (fun y => !shB y) 56 #[] (enters_of Tryz.func56 (by kernel_rfl) rfl) W ((s1.ext okShape E0).ext okShape hX) (fun W y cs hE hy hcs => by cases hcs; exact vC1_any y W) (by omega)
            rw [any_no, a1.out] at this
            exact this
          replace cf1 := hid cf1
          have cf2 : ∀ W, Ext W0 W → Calls Tryz.prog 58 #[.slice p2 n2 c2, .func (.func 59) #[] #[]] W fun e w2 => e = .returned (.bool false) ∧ Ext W w2 := fun W hX => by
            have := containsFuncLabelD p2 n2 c2 base x.lbs (fun y => !lbB y) 59 #[] (enters_of Tryz.func59 (by kernel_rfl) rfl) W ((s2.ext okLabel E0).ext okLabel hX) (fun W y cs hE hy hcs => by cases hcs; exact vC2_any y W (hf.out.2.2.2.1 y hy)) (by omega)
            rw [any_no, a2.out] at this
            exact this
          replace cf2 := hid cf2
          have cf3 : ∀ W, Ext W0 W → Calls Tryz.prog 61 #[.slice p3 n3 c3, .func (.func 62) #[] #[.pointer (some ⟨w.heap.size + 1, 0, none⟩)]] W fun e w2 => e = .returned (.bool false) ∧ Ext W w2 := fun W hX => by
            have := containsFuncInstanceD p3 n3 c3 base x.ins (fun y => !inB y k) 62 #[.pointer (some ⟨w.heap.size + 1, 0, none⟩)] (enters_of Tryz.func62 (by kernel_rfl) rfl) W ((s3.ext okInstance E0).ext okInstance hX) (fun W y cs hE hy hcs => by cases hcs; exact vC3_any y k (w.heap.size + 1) W hk (Nat.lt_of_lt_of_le b1.out.lt (hX.trans hE).le) (((hX.trans hE).cells _ _ b1.out.lt).trans (b1.out.cells 0))) (by omega)
            rw [any_no, a3.out] at this
            exact this
          replace cf3 := hid cf3
          go_wp2_with (first | (go_at_call 54; refine (pName_any x.s _ hf.out.1).mono ?_; rintro e w3 ⟨rfl, E3⟩; replace E := E.trans E3; clear g0 l0 g1 l1 E3; have g0 := (b0.out.ext E).cells; have l0 := (b0.out.ext E).lt; have g1 := (b1.out.ext E).cells; have l1 := (b1.out.ext E).lt) | (go_at_call 55; refine (cf1.out _ E).mono ?_; rintro e w4 ⟨rfl, E4⟩; replace E := E.trans E4; clear g0 l0 g1 l1 E4; have g0 := (b0.out.ext E).cells; have l0 := (b0.out.ext E).lt; have g1 := (b1.out.ext E).cells; have l1 := (b1.out.ext E).lt) | (go_at_call 58; refine (cf2.out _ E).mono ?_; rintro e w5 ⟨rfl, E5⟩; replace E := E.trans E5; clear g0 l0 g1 l1 E5; have g0 := (b0.out.ext E).cells; have l0 := (b0.out.ext E).lt; have g1 := (b1.out.ext E).cells; have l1 := (b1.out.ext E).lt) | (go_at_call 61; refine (cf3.out _ E).mono ?_; rintro e w6 ⟨rfl, E6⟩; replace E := E.trans E6; clear g0 l0 g1 l1 E6; have g0 := (b0.out.ext E).cells; have l0 := (b0.out.ext E).lt; have g1 := (b1.out.ext E).cells; have l1 := (b1.out.ext E).lt))
          go_ret
          exact ⟨ret_bool hr.out, E0.trans E⟩

set_option maxRecDepth 100000 in
set_option maxHeartbeats 4000000 in
theorem rCell_any (x : CeD) (k : Int) (p1 p2 p3 : Option Addr) (n1 c1 n2 c2 n3 c3 base : Nat) (w : World) (s1 : SlD (Fl encSh) 5 base w p1 n1 x.shs) (s2 : SlD (Fl encLb) 4 base w p2 n2 x.lbs) (s3 : SlD (Fl encIn) 8 base w p3 n3 x.ins) (hk : 0 ≤ k ∧ k ≤ 1048576) (hf : FitCe x) :
    Calls Tryz.prog 23 #[.agg #[.string x.s, .slice p1 n1 c1, .slice p2 n2 c2, .slice p3 n3 c3], .int .i64 k] w fun e w' => e = .returned (.bool (ceB x k)) ∧ Ext w w' := by
  have hf := hid hf
  have hl1 := hid s1.length
  have hl2 := hid s2.length
  have hl3 := hid s3.length
  cases h0 : nameB x.s with
  | false =>
    have hr : Hid (false = ceB x k) := by show _ = _; unfold ceB; first | (rw [h0]; done) | (rw [h0]; rfl)
    go_enter Tryz.func23, Tryz.ntmps23
    go_upto_region 1 with (fail)
    generalize hW : World.alloc _ _ = W0
    obtain ⟨E0, z0, b0⟩ := boxes1 hW
    clear hW z0
    replace b0 := hid (show Blk W0 (w.heap.size) [_, _, _, _] _ from b0)
    have g0 := b0.out.cells
    have l0 := b0.out.lt
    have E := Ext.refl W0
    go_wp2_with (first | (go_at_call 41; refine (rName_any x.s _ hf.out.1).mono ?_; rintro e w3 ⟨rfl, E3⟩; replace E := E.trans E3; clear g0 l0 E3; have g0 := (b0.out.ext E).cells; have l0 := (b0.out.ext E).lt))
    go_ret
    exact ⟨ret_bool hr.out, E0.trans E⟩
  | true =>
    by_cases m1 : 24 < n1
    · have z1 : (24 : Int) < n1 := by omega
      have d1 : decide (x.shs.length ≤ 24) = false := decide_eq_false (by have := hl1.out; omega)
      have hr : Hid (false = ceB x k) := by show _ = _; unfold ceB; first | (rw [h0, d1]; done) | (rw [h0, d1]; rfl)
      go_enter Tryz.func23, Tryz.ntmps23
      go_upto_region 1 with (fail)
      generalize hW : World.alloc _ _ = W0
      obtain ⟨E0, z0, b0⟩ := boxes1 hW
      clear hW z0
      replace b0 := hid (show Blk W0 (w.heap.size) [_, _, _, _] _ from b0)
      have g0 := b0.out.cells
      have l0 := b0.out.lt
      have E := Ext.refl W0
      go_wp2_with (first | (go_at_call 41; refine (rName_any x.s _ hf.out.1).mono ?_; rintro e w3 ⟨rfl, E3⟩; replace E := E.trans E3; clear g0 l0 E3; have g0 := (b0.out.ext E).cells; have l0 := (b0.out.ext E).lt))
      go_ret
      exact ⟨ret_bool hr.out, E0.trans E⟩
    have d1 : decide (x.shs.length ≤ 24) = true := decide_eq_true (by have := hl1.out; omega)
    replace d1 := hid d1
    by_cases m2 : 8 < n2
    · have z2 : (8 : Int) < n2 := by omega
      have d2 : decide (x.lbs.length ≤ 8) = false := decide_eq_false (by have := hl2.out; omega)
      have hr : Hid (false = ceB x k) := by show _ = _; unfold ceB; first | (rw [h0, d1.out, d2]; done) | (rw [h0, d1.out, d2]; rfl)
      go_enter Tryz.func23, Tryz.ntmps23
      go_upto_region 1 with (fail)
      generalize hW : World.alloc _ _ = W0
      obtain ⟨E0, z0, b0⟩ := boxes1 hW
      clear hW z0
      replace b0 := hid (show Blk W0 (w.heap.size) [_, _, _, _] _ from b0)
      have g0 := b0.out.cells
      have l0 := b0.out.lt
      have E := Ext.refl W0
      go_wp2_with (first | (go_at_call 41; refine (rName_any x.s _ hf.out.1).mono ?_; rintro e w3 ⟨rfl, E3⟩; replace E := E.trans E3; clear g0 l0 E3; have g0 := (b0.out.ext E).cells; have l0 := (b0.out.ext E).lt))
      go_ret
      exact ⟨ret_bool hr.out, E0.trans E⟩
    have d2 : decide (x.lbs.length ≤ 8) = true := decide_eq_true (by have := hl2.out; omega)
    replace d2 := hid d2
    by_cases m3 : 8 < n3
    · have z3 : (8 : Int) < n3 := by omega
      have d3 : decide (x.ins.length ≤ 8) = false := decide_eq_false (by have := hl3.out; omega)
      have hr : Hid (false = ceB x k) := by show _ = _; unfold ceB; first | (rw [h0, d1.out, d2.out, d3]; done) | (rw [h0, d1.out, d2.out, d3]; rfl)
      go_enter Tryz.func23, Tryz.ntmps23
      go_upto_region 1 with (fail)
      generalize hW : World.alloc _ _ = W0
      obtain ⟨E0, z0, b0⟩ := boxes1 hW
      clear hW z0
      replace b0 := hid (show Blk W0 (w.heap.size) [_, _, _, _] _ from b0)
      have g0 := b0.out.cells
      have l0 := b0.out.lt
      have E := Ext.refl W0
      go_wp2_with (first | (go_at_call 41; refine (rName_any x.s _ hf.out.1).mono ?_; rintro e w3 ⟨rfl, E3⟩; replace E := E.trans E3; clear g0 l0 E3; have g0 := (b0.out.ext E).cells; have l0 := (b0.out.ext E).lt))
      go_ret
      exact ⟨ret_bool hr.out, E0.trans E⟩
    have d3 : decide (x.ins.length ≤ 8) = true := decide_eq_true (by have := hl3.out; omega)
    replace d3 := hid d3
    go_enter Tryz.func23, Tryz.ntmps23
    go_upto_region 1 with (fail)
    generalize hW : World.alloc _ _ = W0
    obtain ⟨E0, z0, b0⟩ := boxes1 hW
    clear hW z0
    replace b0 := hid (show Blk W0 (w.heap.size) [_, _, _, _] _ from b0)
    have g0 := b0.out.cells
    have l0 := b0.out.lt
    have E := Ext.refl W0
    go_wp2_with (first | (go_at_call 41; refine (rName_any x.s _ hf.out.1).mono ?_; rintro e w3 ⟨rfl, E3⟩; replace E := E.trans E3; clear g0 l0 E3; have g0 := (b0.out.ext E).cells; have l0 := (b0.out.ext E).lt))
    go_loopw [5] (fun i wr => ∃ j : Nat, j ≤ n1 ∧ i = .int .i64 j ∧ Ext W0 wr ∧ Hid ((x.shs.take j).all shB = true)) (fun i _ => n1 - (intOf i).toNat)
    case atStart => exact ⟨0, by omega, rfl, E, rfl⟩
    case round =>
      clear g0 l0 E
      obtain ⟨j, hj, rfl, E, hA⟩ := hrel
      have g0 := (b0.out.ext E).cells
      have l0 := (b0.out.ext E).lt
      by_cases hlt : j < n1
      · have hltI : (j : Int) < n1 := by omega
        obtain ⟨b, off, y, cs, rfl, hb, hx, hcs, hc⟩ := ((s1.ext okShape E0).ext okShape E).get hlt
        obtain rfl : cs = encSh y := hcs
        have y0 := hc 0 _ rfl
        rw [Nat.add_zero] at y0
        have y1 := hc 1 _ rfl
        have y2 := hc 2 _ rfl
        have y3 := hc 3 _ rfl
        have y4 := hc 4 _ rfl
        clear hc
        have hcall := hid (rShape_any y wr)
        cases hq : shB y with
        | false =>
          have a1 : x.shs.all shB = false := all_no hx.out hq
          have hr : Hid (false = ceB x k) := by show _ = _; unfold ceB; first | (rw [h0, d1.out, d2.out, d3.out, a1]; done) | (rw [h0, d1.out, d2.out, d3.out, a1]; rfl)
          rw [hq] at hcall
          clear hq a1
          go_wp2_with (first | (go_at_call 42; refine hcall.out.mono ?_; rintro e w4 ⟨rfl, E4⟩))
          go_ret
          exact ⟨ret_bool hr.out, E0.trans (E.trans E4)⟩
        | true =>
          have hr := hid (all_snoc hA.out hx.out hq)
          rw [hq] at hcall
          clear hq
          go_wp2_with (first | (go_at_call 42; refine hcall.out.mono ?_; rintro e w4 ⟨rfl, E4⟩))
          go_roundw
          case rel => exact ⟨j + 1, by omega, by go_num, E.trans E4, hr⟩
          case measure => simp [intOf]; omega
      · have a1 : Hid (x.shs.all shB = true) := all_fin hA.out hl1.out (by omega)
        clear hA
        go_wp2_with (fail)
        go_loopw [6] (fun i wr => ∃ j : Nat, j ≤ n2 ∧ i = .int .i64 j ∧ Ext W0 wr ∧ Hid ((x.lbs.take j).all lbB = true)) (fun i _ => n2 - (intOf i).toNat)
        case atStart => exact ⟨0, by omega, rfl, E, rfl⟩
        case round =>
          clear g0 l0 E
          obtain ⟨j, hj, rfl, E, hA⟩ := hrel
          have g0 := (b0.out.ext E).cells
          have l0 := (b0.out.ext E).lt
          by_cases hlt : j < n2
          · have hltI : (j : Int) < n2 := by omega
            obtain ⟨b, off, y, cs, rfl, hb, hx, hcs, hc⟩ := ((s2.ext okLabel E0).ext okLabel E).get hlt
            obtain rfl : cs = encLb y := hcs
            have y0 := hc 0 _ rfl
            rw [Nat.add_zero] at y0
            have y1 := hc 1 _ rfl
            have y2 := hc 2 _ rfl
            have y3 := hc 3 _ rfl
            clear hc
            have hcall := hid (rLabel_any y wr (hf.out.2.2.2.1 y (List.mem_of_getElem? hx.out)))
            cases hq : lbB y with
            | false =>
              have a2 : x.lbs.all lbB = false := all_no hx.out hq
              have hr : Hid (false = ceB x k) := by show _ = _; unfold ceB; first | (rw [h0, d1.out, d2.out, d3.out, a1.out, a2]; done) | (rw [h0, d1.out, d2.out, d3.out, a1.out, a2]; rfl)
              rw [hq] at hcall
              clear hq a2
              go_wp2_with (first | (go_at_call 43; refine hcall.out.mono ?_; rintro e w4 ⟨rfl, E4⟩))
              go_ret
              exact ⟨ret_bool hr.out, E0.trans (E.trans E4)⟩
            | true =>
              have hr := hid (all_snoc hA.out hx.out hq)
              rw [hq] at hcall
              clear hq
              go_wp2_with (first | (go_at_call 43; refine hcall.out.mono ?_; rintro e w4 ⟨rfl, E4⟩))
              go_roundw
              case rel => exact ⟨j + 1, by omega, by go_num, E.trans E4, hr⟩
              case measure => simp [intOf]; omega
          · have a2 : Hid (x.lbs.all lbB = true) := all_fin hA.out hl2.out (by omega)
            clear hA
            go_wp2_with (fail)
            go_loopw [7] (fun i wr => ∃ j : Nat, j ≤ n3 ∧ i = .int .i64 j ∧ Ext W0 wr ∧ Hid ((x.ins.take j).all (inB · k) = true)) (fun i _ => n3 - (intOf i).toNat)
            case atStart => exact ⟨0, by omega, rfl, E, rfl⟩
            case round =>
              clear g0 l0 E
              obtain ⟨j, hj, rfl, E, hA⟩ := hrel
              have g0 := (b0.out.ext E).cells
              have l0 := (b0.out.ext E).lt
              by_cases hlt : j < n3
              · have hltI : (j : Int) < n3 := by omega
                obtain ⟨b, off, y, cs, rfl, hb, hx, hcs, hc⟩ := ((s3.ext okInstance E0).ext okInstance E).get hlt
                obtain rfl : cs = encIn y := hcs
                have y0 := hc 0 _ rfl
                rw [Nat.add_zero] at y0
                have y1 := hc 1 _ rfl
                have y2 := hc 2 _ rfl
                have y3 := hc 3 _ rfl
                have y4 := hc 4 _ rfl
                have y5 := hc 5 _ rfl
                have y6 := hc 6 _ rfl
                have y7 := hc 7 _ rfl
                clear hc
                have hcall := hid (rInstance_any y k wr hk)
                cases hq : inB y k with
                | false =>
                  have a3 : x.ins.all (inB · k) = false := all_no hx.out hq
                  have hr : Hid (false = ceB x k) := by show _ = _; unfold ceB; first | (rw [h0, d1.out, d2.out, d3.out, a1.out, a2.out, a3]; done) | (rw [h0, d1.out, d2.out, d3.out, a1.out, a2.out, a3]; rfl)
                  rw [hq] at hcall
                  clear hq a3
                  go_wp2_with (first | (go_at_call 44; refine hcall.out.mono ?_; rintro e w4 ⟨rfl, E4⟩))
                  go_ret
                  exact ⟨ret_bool hr.out, E0.trans (E.trans E4)⟩
                | true =>
                  have hr := hid (all_snoc hA.out hx.out hq)
                  rw [hq] at hcall
                  clear hq
                  go_wp2_with (first | (go_at_call 44; refine hcall.out.mono ?_; rintro e w4 ⟨rfl, E4⟩))
                  go_roundw
                  case rel => exact ⟨j + 1, by omega, by go_num, E.trans E4, hr⟩
                  case measure => simp [intOf]; omega
              · have a3 : Hid (x.ins.all (inB · k) = true) := all_fin hA.out hl3.out (by omega)
                clear hA
                have hr : Hid (true = ceB x k) := by show _ = _; unfold ceB; first | (rw [h0, d1.out, d2.out, d3.out, a1.out, a2.out, a3.out]; done) | (rw [h0, d1.out, d2.out, d3.out, a1.out, a2.out, a3.out]; rfl)
                go_wp2_with (fail)
                go_ret
                exact ⟨ret_bool hr.out, E0.trans E⟩

end Go.Proofs.YtncmhefendhinaaGreatDoor
