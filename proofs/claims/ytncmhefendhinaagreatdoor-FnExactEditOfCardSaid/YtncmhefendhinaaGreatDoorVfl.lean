/- Validity of shapes, labels, instances, waivers, program and reference: each with a Bool value. Condition: a string's length fits. -/
import Derived.Test.YtncmhefendhinaaGreatDoorVnm
import Derived.Test.YtncmhefendhinaaGreatDoorDtp
import Derived.Test.YtncmhefendhinaaGreatDoorBlk
import Derived.Deep.Cut
namespace Go.Proofs.YtncmhefendhinaaGreatDoor
open Go.RowKit Go.PlainAid

def rcB (r : Q4) : Bool := wit r.a (-40) 40 && (wit r.c (-40) 40 && (wit r.b (-40) 40 && (wit r.d (-40) 40 && (decide (r.a < r.c) && decide (r.b < r.d)))))
theorem rcB_iff {r : Q4} : rcB r = true ↔ (-40 ≤ r.a ∧ r.a < r.c ∧ r.c ≤ 40) ∧ (-40 ≤ r.b ∧ r.b < r.d ∧ r.d ≤ 40) := by
  simp [rcB, wit]; omega
theorem bool_of {P : Prop} {b c : Bool} (h : b = true ↔ P) (hc : c = true ↔ P) : c = b := by
  cases b <;> cases c <;> simp_all
def unB (p : Q2) : Bool := wit p.a (-40) 39 && wit p.b (-40) 39
def trB (t : Q3) : Bool := wit t.a 0 7 && (wit t.b (-80) 80 && wit t.c (-80) 80)
def shB (x : ShD) : Bool := wit x.a 0 7 && rcB x.box
def lbB (x : LbD) : Bool := wit x.a 0 7 && (unB x.pt && nameB x.s)
def inB (x : InD) (k : Int) : Bool := wit x.a 0 (k - 1) && (trB x.tr && (wit x.c 1 4 && (wit x.d 1 4 && (wit x.e (-80) 80 && (wit x.f (-80) 80 && ((decide (x.e = 0) || decide (1 < x.c)) && (decide (x.f = 0) || decide (1 < x.d))))))))
def wvB (x : WvD) : Bool := wit x.a 0 2147483646 && reasonB x.s

set_option maxRecDepth 100000 in
set_option maxHeartbeats 4000000 in
theorem pRect_any (r : Q4) (w : World) :
    Calls Tryz.prog 84 #[.agg #[.int .i64 r.a, .int .i64 r.b, .int .i64 r.c, .int .i64 r.d]] w fun e w' => e = .returned (.bool (rcB r)) ∧ Ext w w' := by
  have hr := hid (rcB_iff (r := r))
  go_enter Tryz.func84, Tryz.ntmps84
  go_wp2
  all_goals
    go_ret
    exact ⟨ret_bool (bool_of hr.out (by simp; omega)), (Ext.refl _).alloc _⟩

set_option maxRecDepth 100000 in
set_option maxHeartbeats 4000000 in
theorem rRect_any (r : Q4) (w : World) :
    Calls Tryz.prog 73 #[.agg #[.int .i64 r.a, .int .i64 r.b, .int .i64 r.c, .int .i64 r.d]] w fun e w' => e = .returned (.bool (rcB r)) ∧ Ext w w' := by
  have hr := hid (rcB_iff (r := r))
  go_enter Tryz.func73, Tryz.ntmps73
  go_wp2
  all_goals
    go_ret
    exact ⟨ret_bool (bool_of hr.out (by simp; omega)), (Ext.refl _).alloc _⟩

set_option maxRecDepth 100000 in
set_option maxHeartbeats 4000000 in
theorem l09Layer_any (v : Int) (w : World) :
    Calls Tryz.prog 72 #[.int .i64 v] w fun e w' => e = .returned (.bool (wit v 0 7)) ∧ w = w' := by
  go_enter Tryz.func72, Tryz.ntmps72
  go_wp2_with ((go_at_call 47; refine (l09In_any _ _ _ _).mono ?_; rintro e w2 ⟨rfl, rfl⟩))
  go_ret
  exact ⟨rfl, rfl⟩

set_option maxRecDepth 100000 in
set_option maxHeartbeats 4000000 in
theorem pUnit_any (x : Q2) (w : World) :
    Calls Tryz.prog 86 #[.agg #[.int .i64 x.a, .int .i64 x.b]] w fun e w' => e = .returned (.bool (unB x)) ∧ Ext w w' := by
  cases h0 : wit x.a (-40) 39 with
  | false =>
    have hr : Hid (false = unB x) := by show _ = _; unfold unB; first | (rw [h0]; done) | (rw [h0]; rfl)
    go_enter Tryz.func86, Tryz.ntmps86
    go_upto_region 1 with (fail)
    generalize hW : World.alloc _ _ = W0
    obtain ⟨E0, z0, b0⟩ := boxes1 hW
    clear hW z0
    replace b0 := hid (show Blk W0 w.heap.size [_, _] _ from b0)
    have g0 := b0.out.cells
    have l0 := b0.out.lt
    have E := Ext.refl W0
    go_wp2_with (first | (go_at_call 67; refine (within_any _ _ _ _).mono ?_; rintro e w2 ⟨rfl, rfl⟩))
    all_goals go_ret
    all_goals exact ⟨ret_bool (by rw [← hr.out] <;> simp [h0]), E0.trans E⟩
  | true =>
    cases h1 : wit x.b (-40) 39 with
    | false =>
      have hr : Hid (false = unB x) := by show _ = _; unfold unB; first | (rw [h0, h1]; done) | (rw [h0, h1]; rfl)
      go_enter Tryz.func86, Tryz.ntmps86
      go_upto_region 1 with (fail)
      generalize hW : World.alloc _ _ = W0
      obtain ⟨E0, z0, b0⟩ := boxes1 hW
      clear hW z0
      replace b0 := hid (show Blk W0 w.heap.size [_, _] _ from b0)
      have g0 := b0.out.cells
      have l0 := b0.out.lt
      have E := Ext.refl W0
      go_wp2_with (first | (go_at_call 67; refine (within_any _ _ _ _).mono ?_; rintro e w2 ⟨rfl, rfl⟩))
      all_goals go_ret
      all_goals exact ⟨ret_bool (by rw [← hr.out] <;> simp [h0, h1]), E0.trans E⟩
    | true =>
      have hr : Hid (true = unB x) := by show _ = _; unfold unB; first | (rw [h0, h1]; done) | (rw [h0, h1]; rfl)
      go_enter Tryz.func86, Tryz.ntmps86
      go_upto_region 1 with (fail)
      generalize hW : World.alloc _ _ = W0
      obtain ⟨E0, z0, b0⟩ := boxes1 hW
      clear hW z0
      replace b0 := hid (show Blk W0 w.heap.size [_, _] _ from b0)
      have g0 := b0.out.cells
      have l0 := b0.out.lt
      have E := Ext.refl W0
      go_wp2_with (first | (go_at_call 67; refine (within_any _ _ _ _).mono ?_; rintro e w2 ⟨rfl, rfl⟩))
      all_goals go_ret
      all_goals exact ⟨ret_bool (by rw [← hr.out] <;> simp [h0, h1]), E0.trans E⟩

set_option maxRecDepth 100000 in
set_option maxHeartbeats 4000000 in
theorem rUnit_any (x : Q2) (w : World) :
    Calls Tryz.prog 74 #[.agg #[.int .i64 x.a, .int .i64 x.b]] w fun e w' => e = .returned (.bool (unB x)) ∧ Ext w w' := by
  cases h0 : wit x.a (-40) 39 with
  | false =>
    have hr : Hid (false = unB x) := by show _ = _; unfold unB; first | (rw [h0]; done) | (rw [h0]; rfl)
    go_enter Tryz.func74, Tryz.ntmps74
    go_upto_region 1 with (fail)
    generalize hW : World.alloc _ _ = W0
    obtain ⟨E0, z0, b0⟩ := boxes1 hW
    clear hW z0
    replace b0 := hid (show Blk W0 w.heap.size [_, _] _ from b0)
    have g0 := b0.out.cells
    have l0 := b0.out.lt
    have E := Ext.refl W0
    go_wp2_with (first | (go_at_call 47; refine (l09In_any _ _ _ _).mono ?_; rintro e w2 ⟨rfl, rfl⟩))
    all_goals go_ret
    all_goals exact ⟨ret_bool (by rw [← hr.out] <;> simp [h0]), E0.trans E⟩
  | true =>
    cases h1 : wit x.b (-40) 39 with
    | false =>
      have hr : Hid (false = unB x) := by show _ = _; unfold unB; first | (rw [h0, h1]; done) | (rw [h0, h1]; rfl)
      go_enter Tryz.func74, Tryz.ntmps74
      go_upto_region 1 with (fail)
      generalize hW : World.alloc _ _ = W0
      obtain ⟨E0, z0, b0⟩ := boxes1 hW
      clear hW z0
      replace b0 := hid (show Blk W0 w.heap.size [_, _] _ from b0)
      have g0 := b0.out.cells
      have l0 := b0.out.lt
      have E := Ext.refl W0
      go_wp2_with (first | (go_at_call 47; refine (l09In_any _ _ _ _).mono ?_; rintro e w2 ⟨rfl, rfl⟩))
      all_goals go_ret
      all_goals exact ⟨ret_bool (by rw [← hr.out] <;> simp [h0, h1]), E0.trans E⟩
    | true =>
      have hr : Hid (true = unB x) := by show _ = _; unfold unB; first | (rw [h0, h1]; done) | (rw [h0, h1]; rfl)
      go_enter Tryz.func74, Tryz.ntmps74
      go_upto_region 1 with (fail)
      generalize hW : World.alloc _ _ = W0
      obtain ⟨E0, z0, b0⟩ := boxes1 hW
      clear hW z0
      replace b0 := hid (show Blk W0 w.heap.size [_, _] _ from b0)
      have g0 := b0.out.cells
      have l0 := b0.out.lt
      have E := Ext.refl W0
      go_wp2_with (first | (go_at_call 47; refine (l09In_any _ _ _ _).mono ?_; rintro e w2 ⟨rfl, rfl⟩))
      all_goals go_ret
      all_goals exact ⟨ret_bool (by rw [← hr.out] <;> simp [h0, h1]), E0.trans E⟩

set_option maxRecDepth 100000 in
set_option maxHeartbeats 4000000 in
theorem pTransform_any (x : Q3) (w : World) :
    Calls Tryz.prog 88 #[.agg #[.int .i64 x.a, .int .i64 x.b, .int .i64 x.c]] w fun e w' => e = .returned (.bool (trB x)) ∧ Ext w w' := by
  cases h0 : wit x.a 0 7 with
  | false =>
    have hr : Hid (false = trB x) := by show _ = _; unfold trB; first | (rw [h0]; done) | (rw [h0]; rfl)
    go_enter Tryz.func88, Tryz.ntmps88
    go_upto_region 1 with (fail)
    generalize hW : World.alloc _ _ = W0
    obtain ⟨E0, z0, b0⟩ := boxes1 hW
    clear hW z0
    replace b0 := hid (show Blk W0 w.heap.size [_, _, _] _ from b0)
    have g0 := b0.out.cells
    have l0 := b0.out.lt
    have E := Ext.refl W0
    go_wp2_with (first | (go_at_call 67; refine (within_any _ _ _ _).mono ?_; rintro e w2 ⟨rfl, rfl⟩))
    all_goals go_ret
    all_goals exact ⟨ret_bool (by rw [← hr.out] <;> simp [h0]), E0.trans E⟩
  | true =>
    cases h1 : wit x.b (-80) 80 with
    | false =>
      have hr : Hid (false = trB x) := by show _ = _; unfold trB; first | (rw [h0, h1]; done) | (rw [h0, h1]; rfl)
      go_enter Tryz.func88, Tryz.ntmps88
      go_upto_region 1 with (fail)
      generalize hW : World.alloc _ _ = W0
      obtain ⟨E0, z0, b0⟩ := boxes1 hW
      clear hW z0
      replace b0 := hid (show Blk W0 w.heap.size [_, _, _] _ from b0)
      have g0 := b0.out.cells
      have l0 := b0.out.lt
      have E := Ext.refl W0
      go_wp2_with (first | (go_at_call 67; refine (within_any _ _ _ _).mono ?_; rintro e w2 ⟨rfl, rfl⟩))
      all_goals go_ret
      all_goals exact ⟨ret_bool (by rw [← hr.out] <;> simp [h0, h1]), E0.trans E⟩
    | true =>
      cases h2 : wit x.c (-80) 80 with
      | false =>
        have hr : Hid (false = trB x) := by show _ = _; unfold trB; first | (rw [h0, h1, h2]; done) | (rw [h0, h1, h2]; rfl)
        go_enter Tryz.func88, Tryz.ntmps88
        go_upto_region 1 with (fail)
        generalize hW : World.alloc _ _ = W0
        obtain ⟨E0, z0, b0⟩ := boxes1 hW
        clear hW z0
        replace b0 := hid (show Blk W0 w.heap.size [_, _, _] _ from b0)
        have g0 := b0.out.cells
        have l0 := b0.out.lt
        have E := Ext.refl W0
        go_wp2_with (first | (go_at_call 67; refine (within_any _ _ _ _).mono ?_; rintro e w2 ⟨rfl, rfl⟩))
        all_goals go_ret
        all_goals exact ⟨ret_bool (by rw [← hr.out] <;> simp [h0, h1, h2]), E0.trans E⟩
      | true =>
        have hr : Hid (true = trB x) := by show _ = _; unfold trB; first | (rw [h0, h1, h2]; done) | (rw [h0, h1, h2]; rfl)
        go_enter Tryz.func88, Tryz.ntmps88
        go_upto_region 1 with (fail)
        generalize hW : World.alloc _ _ = W0
        obtain ⟨E0, z0, b0⟩ := boxes1 hW
        clear hW z0
        replace b0 := hid (show Blk W0 w.heap.size [_, _, _] _ from b0)
        have g0 := b0.out.cells
        have l0 := b0.out.lt
        have E := Ext.refl W0
        go_wp2_with (first | (go_at_call 67; refine (within_any _ _ _ _).mono ?_; rintro e w2 ⟨rfl, rfl⟩))
        all_goals go_ret
        all_goals exact ⟨ret_bool (by rw [← hr.out] <;> simp [h0, h1, h2]), E0.trans E⟩

set_option maxRecDepth 100000 in
set_option maxHeartbeats 4000000 in
theorem rTransform_any (x : Q3) (w : World) :
    Calls Tryz.prog 75 #[.agg #[.int .i64 x.a, .int .i64 x.b, .int .i64 x.c]] w fun e w' => e = .returned (.bool (trB x)) ∧ Ext w w' := by
  cases h0 : wit x.a 0 7 with
  | false =>
    have hr : Hid (false = trB x) := by show _ = _; unfold trB; first | (rw [h0]; done) | (rw [h0]; rfl)
    go_enter Tryz.func75, Tryz.ntmps75
    go_upto_region 1 with (fail)
    generalize hW : World.alloc _ _ = W0
    obtain ⟨E0, z0, b0⟩ := boxes1 hW
    clear hW z0
    replace b0 := hid (show Blk W0 w.heap.size [_, _, _] _ from b0)
    have g0 := b0.out.cells
    have l0 := b0.out.lt
    have E := Ext.refl W0
    go_wp2_with (first | (go_at_call 47; refine (l09In_any _ _ _ _).mono ?_; rintro e w2 ⟨rfl, rfl⟩))
    all_goals go_ret
    all_goals exact ⟨ret_bool (by rw [← hr.out] <;> simp [h0]), E0.trans E⟩
  | true =>
    cases h1 : wit x.b (-80) 80 with
    | false =>
      have hr : Hid (false = trB x) := by show _ = _; unfold trB; first | (rw [h0, h1]; done) | (rw [h0, h1]; rfl)
      go_enter Tryz.func75, Tryz.ntmps75
      go_upto_region 1 with (fail)
      generalize hW : World.alloc _ _ = W0
      obtain ⟨E0, z0, b0⟩ := boxes1 hW
      clear hW z0
      replace b0 := hid (show Blk W0 w.heap.size [_, _, _] _ from b0)
      have g0 := b0.out.cells
      have l0 := b0.out.lt
      have E := Ext.refl W0
      go_wp2_with (first | (go_at_call 47; refine (l09In_any _ _ _ _).mono ?_; rintro e w2 ⟨rfl, rfl⟩))
      all_goals go_ret
      all_goals exact ⟨ret_bool (by rw [← hr.out] <;> simp [h0, h1]), E0.trans E⟩
    | true =>
      cases h2 : wit x.c (-80) 80 with
      | false =>
        have hr : Hid (false = trB x) := by show _ = _; unfold trB; first | (rw [h0, h1, h2]; done) | (rw [h0, h1, h2]; rfl)
        go_enter Tryz.func75, Tryz.ntmps75
        go_upto_region 1 with (fail)
        generalize hW : World.alloc _ _ = W0
        obtain ⟨E0, z0, b0⟩ := boxes1 hW
        clear hW z0
        replace b0 := hid (show Blk W0 w.heap.size [_, _, _] _ from b0)
        have g0 := b0.out.cells
        have l0 := b0.out.lt
        have E := Ext.refl W0
        go_wp2_with (first | (go_at_call 47; refine (l09In_any _ _ _ _).mono ?_; rintro e w2 ⟨rfl, rfl⟩))
        all_goals go_ret
        all_goals exact ⟨ret_bool (by rw [← hr.out] <;> simp [h0, h1, h2]), E0.trans E⟩
      | true =>
        have hr : Hid (true = trB x) := by show _ = _; unfold trB; first | (rw [h0, h1, h2]; done) | (rw [h0, h1, h2]; rfl)
        go_enter Tryz.func75, Tryz.ntmps75
        go_upto_region 1 with (fail)
        generalize hW : World.alloc _ _ = W0
        obtain ⟨E0, z0, b0⟩ := boxes1 hW
        clear hW z0
        replace b0 := hid (show Blk W0 w.heap.size [_, _, _] _ from b0)
        have g0 := b0.out.cells
        have l0 := b0.out.lt
        have E := Ext.refl W0
        go_wp2_with (first | (go_at_call 47; refine (l09In_any _ _ _ _).mono ?_; rintro e w2 ⟨rfl, rfl⟩))
        all_goals go_ret
        all_goals exact ⟨ret_bool (by rw [← hr.out] <;> simp [h0, h1, h2]), E0.trans E⟩

set_option maxRecDepth 100000 in
set_option maxHeartbeats 4000000 in
theorem pShape_any (x : ShD) (w : World) :
    Calls Tryz.prog 57 #[.agg #[.int .i64 x.a, .int .i64 x.box.a, .int .i64 x.box.b, .int .i64 x.box.c, .int .i64 x.box.d]] w fun e w' => e = .returned (.bool (shB x)) ∧ Ext w w' := by
  cases h0 : wit x.a 0 7 with
  | false =>
    have hr : Hid (false = shB x) := by show _ = _; unfold shB; first | (rw [h0]; done) | (rw [h0]; rfl)
    go_enter Tryz.func57, Tryz.ntmps57
    go_upto_region 1 with (fail)
    generalize hW : World.alloc _ _ = W0
    obtain ⟨E0, z0, b0⟩ := boxes1 hW
    clear hW z0
    replace b0 := hid (show Blk W0 w.heap.size [_, _, _, _, _] _ from b0)
    have g0 := b0.out.cells
    have l0 := b0.out.lt
    have E := Ext.refl W0
    go_wp2_with (first | (go_at_call 67; refine (within_any _ _ _ _).mono ?_; rintro e w2 ⟨rfl, rfl⟩) | (go_at_call 84; refine (pRect_any x.box _).mono ?_; rintro e w3 ⟨rfl, E3⟩; replace E := E.trans E3; clear g0 l0 E3; have g0 := (b0.out.ext E).cells; have l0 := (b0.out.ext E).lt))
    all_goals go_ret
    all_goals exact ⟨ret_bool (by rw [← hr.out] <;> simp [h0]), E0.trans E⟩
  | true =>
    cases h1 : rcB x.box with
    | false =>
      have hr : Hid (false = shB x) := by show _ = _; unfold shB; first | (rw [h0, h1]; done) | (rw [h0, h1]; rfl)
      go_enter Tryz.func57, Tryz.ntmps57
      go_upto_region 1 with (fail)
      generalize hW : World.alloc _ _ = W0
      obtain ⟨E0, z0, b0⟩ := boxes1 hW
      clear hW z0
      replace b0 := hid (show Blk W0 w.heap.size [_, _, _, _, _] _ from b0)
      have g0 := b0.out.cells
      have l0 := b0.out.lt
      have E := Ext.refl W0
      go_wp2_with (first | (go_at_call 67; refine (within_any _ _ _ _).mono ?_; rintro e w2 ⟨rfl, rfl⟩) | (go_at_call 84; refine (pRect_any x.box _).mono ?_; rintro e w3 ⟨rfl, E3⟩; replace E := E.trans E3; clear g0 l0 E3; have g0 := (b0.out.ext E).cells; have l0 := (b0.out.ext E).lt))
      all_goals go_ret
      all_goals exact ⟨ret_bool (by rw [← hr.out] <;> simp [h0, h1]), E0.trans E⟩
    | true =>
      have hr : Hid (true = shB x) := by show _ = _; unfold shB; first | (rw [h0, h1]; done) | (rw [h0, h1]; rfl)
      go_enter Tryz.func57, Tryz.ntmps57
      go_upto_region 1 with (fail)
      generalize hW : World.alloc _ _ = W0
      obtain ⟨E0, z0, b0⟩ := boxes1 hW
      clear hW z0
      replace b0 := hid (show Blk W0 w.heap.size [_, _, _, _, _] _ from b0)
      have g0 := b0.out.cells
      have l0 := b0.out.lt
      have E := Ext.refl W0
      go_wp2_with (first | (go_at_call 67; refine (within_any _ _ _ _).mono ?_; rintro e w2 ⟨rfl, rfl⟩) | (go_at_call 84; refine (pRect_any x.box _).mono ?_; rintro e w3 ⟨rfl, E3⟩; replace E := E.trans E3; clear g0 l0 E3; have g0 := (b0.out.ext E).cells; have l0 := (b0.out.ext E).lt))
      all_goals go_ret
      all_goals exact ⟨ret_bool (by rw [← hr.out] <;> simp [h0, h1]), E0.trans E⟩

set_option maxRecDepth 100000 in
set_option maxHeartbeats 4000000 in
theorem rShape_any (x : ShD) (w : World) :
    Calls Tryz.prog 42 #[.agg #[.int .i64 x.a, .int .i64 x.box.a, .int .i64 x.box.b, .int .i64 x.box.c, .int .i64 x.box.d]] w fun e w' => e = .returned (.bool (shB x)) ∧ Ext w w' := by
  cases h0 : wit x.a 0 7 with
  | false =>
    have hr : Hid (false = shB x) := by show _ = _; unfold shB; first | (rw [h0]; done) | (rw [h0]; rfl)
    go_enter Tryz.func42, Tryz.ntmps42
    go_upto_region 1 with (fail)
    generalize hW : World.alloc _ _ = W0
    obtain ⟨E0, z0, b0⟩ := boxes1 hW
    clear hW z0
    replace b0 := hid (show Blk W0 w.heap.size [_, _, _, _, _] _ from b0)
    have g0 := b0.out.cells
    have l0 := b0.out.lt
    have E := Ext.refl W0
    go_wp2_with (first | (go_at_call 72; refine (l09Layer_any _ _).mono ?_; rintro e w2 ⟨rfl, rfl⟩) | (go_at_call 73; refine (rRect_any x.box _).mono ?_; rintro e w3 ⟨rfl, E3⟩; replace E := E.trans E3; clear g0 l0 E3; have g0 := (b0.out.ext E).cells; have l0 := (b0.out.ext E).lt))
    all_goals go_ret
    all_goals exact ⟨ret_bool (by rw [← hr.out] <;> simp [h0]), E0.trans E⟩
  | true =>
    cases h1 : rcB x.box with
    | false =>
      have hr : Hid (false = shB x) := by show _ = _; unfold shB; first | (rw [h0, h1]; done) | (rw [h0, h1]; rfl)
      go_enter Tryz.func42, Tryz.ntmps42
      go_upto_region 1 with (fail)
      generalize hW : World.alloc _ _ = W0
      obtain ⟨E0, z0, b0⟩ := boxes1 hW
      clear hW z0
      replace b0 := hid (show Blk W0 w.heap.size [_, _, _, _, _] _ from b0)
      have g0 := b0.out.cells
      have l0 := b0.out.lt
      have E := Ext.refl W0
      go_wp2_with (first | (go_at_call 72; refine (l09Layer_any _ _).mono ?_; rintro e w2 ⟨rfl, rfl⟩) | (go_at_call 73; refine (rRect_any x.box _).mono ?_; rintro e w3 ⟨rfl, E3⟩; replace E := E.trans E3; clear g0 l0 E3; have g0 := (b0.out.ext E).cells; have l0 := (b0.out.ext E).lt))
      all_goals go_ret
      all_goals exact ⟨ret_bool (by rw [← hr.out] <;> simp [h0, h1]), E0.trans E⟩
    | true =>
      have hr : Hid (true = shB x) := by show _ = _; unfold shB; first | (rw [h0, h1]; done) | (rw [h0, h1]; rfl)
      go_enter Tryz.func42, Tryz.ntmps42
      go_upto_region 1 with (fail)
      generalize hW : World.alloc _ _ = W0
      obtain ⟨E0, z0, b0⟩ := boxes1 hW
      clear hW z0
      replace b0 := hid (show Blk W0 w.heap.size [_, _, _, _, _] _ from b0)
      have g0 := b0.out.cells
      have l0 := b0.out.lt
      have E := Ext.refl W0
      go_wp2_with (first | (go_at_call 72; refine (l09Layer_any _ _).mono ?_; rintro e w2 ⟨rfl, rfl⟩) | (go_at_call 73; refine (rRect_any x.box _).mono ?_; rintro e w3 ⟨rfl, E3⟩; replace E := E.trans E3; clear g0 l0 E3; have g0 := (b0.out.ext E).cells; have l0 := (b0.out.ext E).lt))
      all_goals go_ret
      all_goals exact ⟨ret_bool (by rw [← hr.out] <;> simp [h0, h1]), E0.trans E⟩

set_option maxRecDepth 100000 in
set_option maxHeartbeats 4000000 in
theorem pLabel_any (x : LbD) (w : World) (hs : x.s.size ≤ 9223372036854775807) :
    Calls Tryz.prog 60 #[.agg #[.int .i64 x.a, .int .i64 x.pt.a, .int .i64 x.pt.b, .string x.s]] w fun e w' => e = .returned (.bool (lbB x)) ∧ Ext w w' := by
  cases h0 : wit x.a 0 7 with
  | false =>
    have hr : Hid (false = lbB x) := by show _ = _; unfold lbB; first | (rw [h0]; done) | (rw [h0]; rfl)
    go_enter Tryz.func60, Tryz.ntmps60
    go_upto_region 1 with (fail)
    generalize hW : World.alloc _ _ = W0
    obtain ⟨E0, z0, b0⟩ := boxes1 hW
    clear hW z0
    replace b0 := hid (show Blk W0 w.heap.size [_, _, _, _] _ from b0)
    have g0 := b0.out.cells
    have l0 := b0.out.lt
    have E := Ext.refl W0
    go_wp2_with (first | (go_at_call 67; refine (within_any _ _ _ _).mono ?_; rintro e w2 ⟨rfl, rfl⟩) | (go_at_call 86; refine (pUnit_any x.pt _).mono ?_; rintro e w3 ⟨rfl, E3⟩; replace E := E.trans E3; clear g0 l0 E3; have g0 := (b0.out.ext E).cells; have l0 := (b0.out.ext E).lt) | (go_at_call 54; refine (pName_any x.s _ hs).mono ?_; rintro e w4 ⟨rfl, E4⟩; replace E := E.trans E4; clear g0 l0 E4; have g0 := (b0.out.ext E).cells; have l0 := (b0.out.ext E).lt))
    all_goals go_ret
    all_goals exact ⟨ret_bool (by rw [← hr.out] <;> simp [h0]), E0.trans E⟩
  | true =>
    cases h1 : unB x.pt with
    | false =>
      have hr : Hid (false = lbB x) := by show _ = _; unfold lbB; first | (rw [h0, h1]; done) | (rw [h0, h1]; rfl)
      go_enter Tryz.func60, Tryz.ntmps60
      go_upto_region 1 with (fail)
      generalize hW : World.alloc _ _ = W0
      obtain ⟨E0, z0, b0⟩ := boxes1 hW
      clear hW z0
      replace b0 := hid (show Blk W0 w.heap.size [_, _, _, _] _ from b0)
      have g0 := b0.out.cells
      have l0 := b0.out.lt
      have E := Ext.refl W0
      go_wp2_with (first | (go_at_call 67; refine (within_any _ _ _ _).mono ?_; rintro e w2 ⟨rfl, rfl⟩) | (go_at_call 86; refine (pUnit_any x.pt _).mono ?_; rintro e w3 ⟨rfl, E3⟩; replace E := E.trans E3; clear g0 l0 E3; have g0 := (b0.out.ext E).cells; have l0 := (b0.out.ext E).lt) | (go_at_call 54; refine (pName_any x.s _ hs).mono ?_; rintro e w4 ⟨rfl, E4⟩; replace E := E.trans E4; clear g0 l0 E4; have g0 := (b0.out.ext E).cells; have l0 := (b0.out.ext E).lt))
      all_goals go_ret
      all_goals exact ⟨ret_bool (by rw [← hr.out] <;> simp [h0, h1]), E0.trans E⟩
    | true =>
      cases h2 : nameB x.s with
      | false =>
        have hr : Hid (false = lbB x) := by show _ = _; unfold lbB; first | (rw [h0, h1, h2]; done) | (rw [h0, h1, h2]; rfl)
        go_enter Tryz.func60, Tryz.ntmps60
        go_upto_region 1 with (fail)
        generalize hW : World.alloc _ _ = W0
        obtain ⟨E0, z0, b0⟩ := boxes1 hW
        clear hW z0
        replace b0 := hid (show Blk W0 w.heap.size [_, _, _, _] _ from b0)
        have g0 := b0.out.cells
        have l0 := b0.out.lt
        have E := Ext.refl W0
        go_wp2_with (first | (go_at_call 67; refine (within_any _ _ _ _).mono ?_; rintro e w2 ⟨rfl, rfl⟩) | (go_at_call 86; refine (pUnit_any x.pt _).mono ?_; rintro e w3 ⟨rfl, E3⟩; replace E := E.trans E3; clear g0 l0 E3; have g0 := (b0.out.ext E).cells; have l0 := (b0.out.ext E).lt) | (go_at_call 54; refine (pName_any x.s _ hs).mono ?_; rintro e w4 ⟨rfl, E4⟩; replace E := E.trans E4; clear g0 l0 E4; have g0 := (b0.out.ext E).cells; have l0 := (b0.out.ext E).lt))
        all_goals go_ret
        all_goals exact ⟨ret_bool (by rw [← hr.out] <;> simp [h0, h1, h2]), E0.trans E⟩
      | true =>
        have hr : Hid (true = lbB x) := by show _ = _; unfold lbB; first | (rw [h0, h1, h2]; done) | (rw [h0, h1, h2]; rfl)
        go_enter Tryz.func60, Tryz.ntmps60
        go_upto_region 1 with (fail)
        generalize hW : World.alloc _ _ = W0
        obtain ⟨E0, z0, b0⟩ := boxes1 hW
        clear hW z0
        replace b0 := hid (show Blk W0 w.heap.size [_, _, _, _] _ from b0)
        have g0 := b0.out.cells
        have l0 := b0.out.lt
        have E := Ext.refl W0
        go_wp2_with (first | (go_at_call 67; refine (within_any _ _ _ _).mono ?_; rintro e w2 ⟨rfl, rfl⟩) | (go_at_call 86; refine (pUnit_any x.pt _).mono ?_; rintro e w3 ⟨rfl, E3⟩; replace E := E.trans E3; clear g0 l0 E3; have g0 := (b0.out.ext E).cells; have l0 := (b0.out.ext E).lt) | (go_at_call 54; refine (pName_any x.s _ hs).mono ?_; rintro e w4 ⟨rfl, E4⟩; replace E := E.trans E4; clear g0 l0 E4; have g0 := (b0.out.ext E).cells; have l0 := (b0.out.ext E).lt))
        all_goals go_ret
        all_goals exact ⟨ret_bool (by rw [← hr.out] <;> simp [h0, h1, h2]), E0.trans E⟩

set_option maxRecDepth 100000 in
set_option maxHeartbeats 4000000 in
theorem rLabel_any (x : LbD) (w : World) (hs : x.s.size ≤ 9223372036854775807) :
    Calls Tryz.prog 43 #[.agg #[.int .i64 x.a, .int .i64 x.pt.a, .int .i64 x.pt.b, .string x.s]] w fun e w' => e = .returned (.bool (lbB x)) ∧ Ext w w' := by
  cases h0 : wit x.a 0 7 with
  | false =>
    have hr : Hid (false = lbB x) := by show _ = _; unfold lbB; first | (rw [h0]; done) | (rw [h0]; rfl)
    go_enter Tryz.func43, Tryz.ntmps43
    go_upto_region 1 with (fail)
    generalize hW : World.alloc _ _ = W0
    obtain ⟨E0, z0, b0⟩ := boxes1 hW
    clear hW z0
    replace b0 := hid (show Blk W0 w.heap.size [_, _, _, _] _ from b0)
    have g0 := b0.out.cells
    have l0 := b0.out.lt
    have E := Ext.refl W0
    go_wp2_with (first | (go_at_call 72; refine (l09Layer_any _ _).mono ?_; rintro e w2 ⟨rfl, rfl⟩) | (go_at_call 74; refine (rUnit_any x.pt _).mono ?_; rintro e w3 ⟨rfl, E3⟩; replace E := E.trans E3; clear g0 l0 E3; have g0 := (b0.out.ext E).cells; have l0 := (b0.out.ext E).lt) | (go_at_call 41; refine (rName_any x.s _ hs).mono ?_; rintro e w4 ⟨rfl, E4⟩; replace E := E.trans E4; clear g0 l0 E4; have g0 := (b0.out.ext E).cells; have l0 := (b0.out.ext E).lt))
    all_goals go_ret
    all_goals exact ⟨ret_bool (by rw [← hr.out] <;> simp [h0]), E0.trans E⟩
  | true =>
    cases h1 : unB x.pt with
    | false =>
      have hr : Hid (false = lbB x) := by show _ = _; unfold lbB; first | (rw [h0, h1]; done) | (rw [h0, h1]; rfl)
      go_enter Tryz.func43, Tryz.ntmps43
      go_upto_region 1 with (fail)
      generalize hW : World.alloc _ _ = W0
      obtain ⟨E0, z0, b0⟩ := boxes1 hW
      clear hW z0
      replace b0 := hid (show Blk W0 w.heap.size [_, _, _, _] _ from b0)
      have g0 := b0.out.cells
      have l0 := b0.out.lt
      have E := Ext.refl W0
      go_wp2_with (first | (go_at_call 72; refine (l09Layer_any _ _).mono ?_; rintro e w2 ⟨rfl, rfl⟩) | (go_at_call 74; refine (rUnit_any x.pt _).mono ?_; rintro e w3 ⟨rfl, E3⟩; replace E := E.trans E3; clear g0 l0 E3; have g0 := (b0.out.ext E).cells; have l0 := (b0.out.ext E).lt) | (go_at_call 41; refine (rName_any x.s _ hs).mono ?_; rintro e w4 ⟨rfl, E4⟩; replace E := E.trans E4; clear g0 l0 E4; have g0 := (b0.out.ext E).cells; have l0 := (b0.out.ext E).lt))
      all_goals go_ret
      all_goals exact ⟨ret_bool (by rw [← hr.out] <;> simp [h0, h1]), E0.trans E⟩
    | true =>
      cases h2 : nameB x.s with
      | false =>
        have hr : Hid (false = lbB x) := by show _ = _; unfold lbB; first | (rw [h0, h1, h2]; done) | (rw [h0, h1, h2]; rfl)
        go_enter Tryz.func43, Tryz.ntmps43
        go_upto_region 1 with (fail)
        generalize hW : World.alloc _ _ = W0
        obtain ⟨E0, z0, b0⟩ := boxes1 hW
        clear hW z0
        replace b0 := hid (show Blk W0 w.heap.size [_, _, _, _] _ from b0)
        have g0 := b0.out.cells
        have l0 := b0.out.lt
        have E := Ext.refl W0
        go_wp2_with (first | (go_at_call 72; refine (l09Layer_any _ _).mono ?_; rintro e w2 ⟨rfl, rfl⟩) | (go_at_call 74; refine (rUnit_any x.pt _).mono ?_; rintro e w3 ⟨rfl, E3⟩; replace E := E.trans E3; clear g0 l0 E3; have g0 := (b0.out.ext E).cells; have l0 := (b0.out.ext E).lt) | (go_at_call 41; refine (rName_any x.s _ hs).mono ?_; rintro e w4 ⟨rfl, E4⟩; replace E := E.trans E4; clear g0 l0 E4; have g0 := (b0.out.ext E).cells; have l0 := (b0.out.ext E).lt))
        all_goals go_ret
        all_goals exact ⟨ret_bool (by rw [← hr.out] <;> simp [h0, h1, h2]), E0.trans E⟩
      | true =>
        have hr : Hid (true = lbB x) := by show _ = _; unfold lbB; first | (rw [h0, h1, h2]; done) | (rw [h0, h1, h2]; rfl)
        go_enter Tryz.func43, Tryz.ntmps43
        go_upto_region 1 with (fail)
        generalize hW : World.alloc _ _ = W0
        obtain ⟨E0, z0, b0⟩ := boxes1 hW
        clear hW z0
        replace b0 := hid (show Blk W0 w.heap.size [_, _, _, _] _ from b0)
        have g0 := b0.out.cells
        have l0 := b0.out.lt
        have E := Ext.refl W0
        go_wp2_with (first | (go_at_call 72; refine (l09Layer_any _ _).mono ?_; rintro e w2 ⟨rfl, rfl⟩) | (go_at_call 74; refine (rUnit_any x.pt _).mono ?_; rintro e w3 ⟨rfl, E3⟩; replace E := E.trans E3; clear g0 l0 E3; have g0 := (b0.out.ext E).cells; have l0 := (b0.out.ext E).lt) | (go_at_call 41; refine (rName_any x.s _ hs).mono ?_; rintro e w4 ⟨rfl, E4⟩; replace E := E.trans E4; clear g0 l0 E4; have g0 := (b0.out.ext E).cells; have l0 := (b0.out.ext E).lt))
        all_goals go_ret
        all_goals exact ⟨ret_bool (by rw [← hr.out] <;> simp [h0, h1, h2]), E0.trans E⟩

set_option maxRecDepth 100000 in
set_option maxHeartbeats 4000000 in
theorem pInstance_any (x : InD) (k : Int) (w : World) (hk : 0 ≤ k ∧ k ≤ 1048576) :
    Calls Tryz.prog 63 #[.agg #[.int .i64 x.a, .int .i64 x.tr.a, .int .i64 x.tr.b, .int .i64 x.tr.c, .int .i64 x.c, .int .i64 x.d, .int .i64 x.e, .int .i64 x.f], .int .i64 k] w fun e w' => e = .returned (.bool (inB x k)) ∧ Ext w w' := by
  cases h0 : wit x.a 0 (k - 1) with
  | false =>
    have hr : Hid (false = inB x k) := by show _ = _; unfold inB; first | (rw [h0]; done) | (rw [h0]; rfl)
    go_enter Tryz.func63, Tryz.ntmps63
    go_upto_region 1 with (fail)
    generalize hW : World.alloc _ _ = W0
    obtain ⟨E0, z0, b0⟩ := boxes1 hW
    clear hW z0
    replace b0 := hid (show Blk W0 w.heap.size [_, _, _, _, _, _, _, _] _ from b0)
    have g0 := b0.out.cells
    have l0 := b0.out.lt
    have E := Ext.refl W0
    go_wp2_with (first | (go_at_call 67; refine (within_any _ _ _ _).mono ?_; rintro e w2 ⟨rfl, rfl⟩) | (go_at_call 88; refine (pTransform_any x.tr _).mono ?_; rintro e w3 ⟨rfl, E3⟩; replace E := E.trans E3; clear g0 l0 E3; have g0 := (b0.out.ext E).cells; have l0 := (b0.out.ext E).lt))
    all_goals go_ret
    all_goals exact ⟨ret_bool (by rw [← hr.out] <;> simp [h0]), E0.trans E⟩
  | true =>
    cases h1 : trB x.tr with
    | false =>
      have hr : Hid (false = inB x k) := by show _ = _; unfold inB; first | (rw [h0, h1]; done) | (rw [h0, h1]; rfl)
      go_enter Tryz.func63, Tryz.ntmps63
      go_upto_region 1 with (fail)
      generalize hW : World.alloc _ _ = W0
      obtain ⟨E0, z0, b0⟩ := boxes1 hW
      clear hW z0
      replace b0 := hid (show Blk W0 w.heap.size [_, _, _, _, _, _, _, _] _ from b0)
      have g0 := b0.out.cells
      have l0 := b0.out.lt
      have E := Ext.refl W0
      go_wp2_with (first | (go_at_call 67; refine (within_any _ _ _ _).mono ?_; rintro e w2 ⟨rfl, rfl⟩) | (go_at_call 88; refine (pTransform_any x.tr _).mono ?_; rintro e w3 ⟨rfl, E3⟩; replace E := E.trans E3; clear g0 l0 E3; have g0 := (b0.out.ext E).cells; have l0 := (b0.out.ext E).lt))
      all_goals go_ret
      all_goals exact ⟨ret_bool (by rw [← hr.out] <;> simp [h0, h1]), E0.trans E⟩
    | true =>
      cases h2 : wit x.c 1 4 with
      | false =>
        have hr : Hid (false = inB x k) := by show _ = _; unfold inB; first | (rw [h0, h1, h2]; done) | (rw [h0, h1, h2]; rfl)
        go_enter Tryz.func63, Tryz.ntmps63
        go_upto_region 1 with (fail)
        generalize hW : World.alloc _ _ = W0
        obtain ⟨E0, z0, b0⟩ := boxes1 hW
        clear hW z0
        replace b0 := hid (show Blk W0 w.heap.size [_, _, _, _, _, _, _, _] _ from b0)
        have g0 := b0.out.cells
        have l0 := b0.out.lt
        have E := Ext.refl W0
        go_wp2_with (first | (go_at_call 67; refine (within_any _ _ _ _).mono ?_; rintro e w2 ⟨rfl, rfl⟩) | (go_at_call 88; refine (pTransform_any x.tr _).mono ?_; rintro e w3 ⟨rfl, E3⟩; replace E := E.trans E3; clear g0 l0 E3; have g0 := (b0.out.ext E).cells; have l0 := (b0.out.ext E).lt))
        all_goals go_ret
        all_goals exact ⟨ret_bool (by rw [← hr.out] <;> simp [h0, h1, h2]), E0.trans E⟩
      | true =>
        cases h3 : wit x.d 1 4 with
        | false =>
          have hr : Hid (false = inB x k) := by show _ = _; unfold inB; first | (rw [h0, h1, h2, h3]; done) | (rw [h0, h1, h2, h3]; rfl)
          go_enter Tryz.func63, Tryz.ntmps63
          go_upto_region 1 with (fail)
          generalize hW : World.alloc _ _ = W0
          obtain ⟨E0, z0, b0⟩ := boxes1 hW
          clear hW z0
          replace b0 := hid (show Blk W0 w.heap.size [_, _, _, _, _, _, _, _] _ from b0)
          have g0 := b0.out.cells
          have l0 := b0.out.lt
          have E := Ext.refl W0
          go_wp2_with (first | (go_at_call 67; refine (within_any _ _ _ _).mono ?_; rintro e w2 ⟨rfl, rfl⟩) | (go_at_call 88; refine (pTransform_any x.tr _).mono ?_; rintro e w3 ⟨rfl, E3⟩; replace E := E.trans E3; clear g0 l0 E3; have g0 := (b0.out.ext E).cells; have l0 := (b0.out.ext E).lt))
          all_goals go_ret
          all_goals exact ⟨ret_bool (by rw [← hr.out] <;> simp [h0, h1, h2, h3]), E0.trans E⟩
        | true =>
          cases h4 : wit x.e (-80) 80 with
          | false =>
            have hr : Hid (false = inB x k) := by show _ = _; unfold inB; first | (rw [h0, h1, h2, h3, h4]; done) | (rw [h0, h1, h2, h3, h4]; rfl)
            go_enter Tryz.func63, Tryz.ntmps63
            go_upto_region 1 with (fail)
            generalize hW : World.alloc _ _ = W0
            obtain ⟨E0, z0, b0⟩ := boxes1 hW
            clear hW z0
            replace b0 := hid (show Blk W0 w.heap.size [_, _, _, _, _, _, _, _] _ from b0)
            have g0 := b0.out.cells
            have l0 := b0.out.lt
            have E := Ext.refl W0
            go_wp2_with (first | (go_at_call 67; refine (within_any _ _ _ _).mono ?_; rintro e w2 ⟨rfl, rfl⟩) | (go_at_call 88; refine (pTransform_any x.tr _).mono ?_; rintro e w3 ⟨rfl, E3⟩; replace E := E.trans E3; clear g0 l0 E3; have g0 := (b0.out.ext E).cells; have l0 := (b0.out.ext E).lt))
            all_goals go_ret
            all_goals exact ⟨ret_bool (by rw [← hr.out] <;> simp [h0, h1, h2, h3, h4]), E0.trans E⟩
          | true =>
            cases h5 : wit x.f (-80) 80 with
            | false =>
              have hr : Hid (false = inB x k) := by show _ = _; unfold inB; first | (rw [h0, h1, h2, h3, h4, h5]; done) | (rw [h0, h1, h2, h3, h4, h5]; rfl)
              go_enter Tryz.func63, Tryz.ntmps63
              go_upto_region 1 with (fail)
              generalize hW : World.alloc _ _ = W0
              obtain ⟨E0, z0, b0⟩ := boxes1 hW
              clear hW z0
              replace b0 := hid (show Blk W0 w.heap.size [_, _, _, _, _, _, _, _] _ from b0)
              have g0 := b0.out.cells
              have l0 := b0.out.lt
              have E := Ext.refl W0
              go_wp2_with (first | (go_at_call 67; refine (within_any _ _ _ _).mono ?_; rintro e w2 ⟨rfl, rfl⟩) | (go_at_call 88; refine (pTransform_any x.tr _).mono ?_; rintro e w3 ⟨rfl, E3⟩; replace E := E.trans E3; clear g0 l0 E3; have g0 := (b0.out.ext E).cells; have l0 := (b0.out.ext E).lt))
              all_goals go_ret
              all_goals exact ⟨ret_bool (by rw [← hr.out] <;> simp [h0, h1, h2, h3, h4, h5]), E0.trans E⟩
            | true =>
              cases h6 : (decide (x.e = 0) || decide (1 < x.c)) with
              | false =>
                have hr : Hid (false = inB x k) := by show _ = _; unfold inB; first | (rw [h0, h1, h2, h3, h4, h5, h6]; done) | (rw [h0, h1, h2, h3, h4, h5, h6]; rfl)
                go_enter Tryz.func63, Tryz.ntmps63
                go_upto_region 1 with (fail)
                generalize hW : World.alloc _ _ = W0
                obtain ⟨E0, z0, b0⟩ := boxes1 hW
                clear hW z0
                replace b0 := hid (show Blk W0 w.heap.size [_, _, _, _, _, _, _, _] _ from b0)
                have g0 := b0.out.cells
                have l0 := b0.out.lt
                have E := Ext.refl W0
                go_wp2_with (first | (go_at_call 67; refine (within_any _ _ _ _).mono ?_; rintro e w2 ⟨rfl, rfl⟩) | (go_at_call 88; refine (pTransform_any x.tr _).mono ?_; rintro e w3 ⟨rfl, E3⟩; replace E := E.trans E3; clear g0 l0 E3; have g0 := (b0.out.ext E).cells; have l0 := (b0.out.ext E).lt))
                all_goals go_ret
                all_goals exact ⟨ret_bool (by rw [← hr.out] <;> first | (revert h6; simp; done) | (revert h6; simp; omega) | (revert h6; simp <;> omega) | omega), E0.trans E⟩
              | true =>
                cases h7 : (decide (x.f = 0) || decide (1 < x.d)) with
                | false =>
                  have hr : Hid (false = inB x k) := by show _ = _; unfold inB; first | (rw [h0, h1, h2, h3, h4, h5, h6, h7]; done) | (rw [h0, h1, h2, h3, h4, h5, h6, h7]; rfl)
                  go_enter Tryz.func63, Tryz.ntmps63
                  go_upto_region 1 with (fail)
                  generalize hW : World.alloc _ _ = W0
                  obtain ⟨E0, z0, b0⟩ := boxes1 hW
                  clear hW z0
                  replace b0 := hid (show Blk W0 w.heap.size [_, _, _, _, _, _, _, _] _ from b0)
                  have g0 := b0.out.cells
                  have l0 := b0.out.lt
                  have E := Ext.refl W0
                  go_wp2_with (first | (go_at_call 67; refine (within_any _ _ _ _).mono ?_; rintro e w2 ⟨rfl, rfl⟩) | (go_at_call 88; refine (pTransform_any x.tr _).mono ?_; rintro e w3 ⟨rfl, E3⟩; replace E := E.trans E3; clear g0 l0 E3; have g0 := (b0.out.ext E).cells; have l0 := (b0.out.ext E).lt))
                  all_goals go_ret
                  all_goals exact ⟨ret_bool (by rw [← hr.out] <;> first | (revert h6 h7; simp; done) | (revert h6 h7; simp; omega) | (revert h6 h7; simp <;> omega) | omega), E0.trans E⟩
                | true =>
                  have hr : Hid (true = inB x k) := by show _ = _; unfold inB; first | (rw [h0, h1, h2, h3, h4, h5, h6, h7]; done) | (rw [h0, h1, h2, h3, h4, h5, h6, h7]; rfl)
                  go_enter Tryz.func63, Tryz.ntmps63
                  go_upto_region 1 with (fail)
                  generalize hW : World.alloc _ _ = W0
                  obtain ⟨E0, z0, b0⟩ := boxes1 hW
                  clear hW z0
                  replace b0 := hid (show Blk W0 w.heap.size [_, _, _, _, _, _, _, _] _ from b0)
                  have g0 := b0.out.cells
                  have l0 := b0.out.lt
                  have E := Ext.refl W0
                  go_wp2_with (first | (go_at_call 67; refine (within_any _ _ _ _).mono ?_; rintro e w2 ⟨rfl, rfl⟩) | (go_at_call 88; refine (pTransform_any x.tr _).mono ?_; rintro e w3 ⟨rfl, E3⟩; replace E := E.trans E3; clear g0 l0 E3; have g0 := (b0.out.ext E).cells; have l0 := (b0.out.ext E).lt))
                  all_goals go_ret
                  all_goals exact ⟨ret_bool (by rw [← hr.out] <;> first | (revert h6 h7; simp; done) | (revert h6 h7; simp; omega) | (revert h6 h7; simp <;> omega) | omega), E0.trans E⟩

set_option maxRecDepth 100000 in
set_option maxHeartbeats 4000000 in
theorem rInstance_any (x : InD) (k : Int) (w : World) (hk : 0 ≤ k ∧ k ≤ 1048576) :
    Calls Tryz.prog 44 #[.agg #[.int .i64 x.a, .int .i64 x.tr.a, .int .i64 x.tr.b, .int .i64 x.tr.c, .int .i64 x.c, .int .i64 x.d, .int .i64 x.e, .int .i64 x.f], .int .i64 k] w fun e w' => e = .returned (.bool (inB x k)) ∧ Ext w w' := by
  cases h0 : wit x.a 0 (k - 1) with
  | false =>
    have hr : Hid (false = inB x k) := by show _ = _; unfold inB; first | (rw [h0]; done) | (rw [h0]; rfl)
    go_enter Tryz.func44, Tryz.ntmps44
    go_upto_region 1 with (fail)
    generalize hW : World.alloc _ _ = W0
    obtain ⟨E0, z0, b0⟩ := boxes1 hW
    clear hW z0
    replace b0 := hid (show Blk W0 w.heap.size [_, _, _, _, _, _, _, _] _ from b0)
    have g0 := b0.out.cells
    have l0 := b0.out.lt
    have E := Ext.refl W0
    go_wp2_with (first | (go_at_call 47; refine (l09In_any _ _ _ _).mono ?_; rintro e w2 ⟨rfl, rfl⟩) | (go_at_call 75; refine (rTransform_any x.tr _).mono ?_; rintro e w3 ⟨rfl, E3⟩; replace E := E.trans E3; clear g0 l0 E3; have g0 := (b0.out.ext E).cells; have l0 := (b0.out.ext E).lt))
    all_goals go_ret
    all_goals exact ⟨ret_bool (by rw [← hr.out] <;> simp [h0]), E0.trans E⟩
  | true =>
    cases h1 : trB x.tr with
    | false =>
      have hr : Hid (false = inB x k) := by show _ = _; unfold inB; first | (rw [h0, h1]; done) | (rw [h0, h1]; rfl)
      go_enter Tryz.func44, Tryz.ntmps44
      go_upto_region 1 with (fail)
      generalize hW : World.alloc _ _ = W0
      obtain ⟨E0, z0, b0⟩ := boxes1 hW
      clear hW z0
      replace b0 := hid (show Blk W0 w.heap.size [_, _, _, _, _, _, _, _] _ from b0)
      have g0 := b0.out.cells
      have l0 := b0.out.lt
      have E := Ext.refl W0
      go_wp2_with (first | (go_at_call 47; refine (l09In_any _ _ _ _).mono ?_; rintro e w2 ⟨rfl, rfl⟩) | (go_at_call 75; refine (rTransform_any x.tr _).mono ?_; rintro e w3 ⟨rfl, E3⟩; replace E := E.trans E3; clear g0 l0 E3; have g0 := (b0.out.ext E).cells; have l0 := (b0.out.ext E).lt))
      all_goals go_ret
      all_goals exact ⟨ret_bool (by rw [← hr.out] <;> simp [h0, h1]), E0.trans E⟩
    | true =>
      cases h2 : wit x.c 1 4 with
      | false =>
        have hr : Hid (false = inB x k) := by show _ = _; unfold inB; first | (rw [h0, h1, h2]; done) | (rw [h0, h1, h2]; rfl)
        go_enter Tryz.func44, Tryz.ntmps44
        go_upto_region 1 with (fail)
        generalize hW : World.alloc _ _ = W0
        obtain ⟨E0, z0, b0⟩ := boxes1 hW
        clear hW z0
        replace b0 := hid (show Blk W0 w.heap.size [_, _, _, _, _, _, _, _] _ from b0)
        have g0 := b0.out.cells
        have l0 := b0.out.lt
        have E := Ext.refl W0
        go_wp2_with (first | (go_at_call 47; refine (l09In_any _ _ _ _).mono ?_; rintro e w2 ⟨rfl, rfl⟩) | (go_at_call 75; refine (rTransform_any x.tr _).mono ?_; rintro e w3 ⟨rfl, E3⟩; replace E := E.trans E3; clear g0 l0 E3; have g0 := (b0.out.ext E).cells; have l0 := (b0.out.ext E).lt))
        all_goals go_ret
        all_goals exact ⟨ret_bool (by rw [← hr.out] <;> simp [h0, h1, h2]), E0.trans E⟩
      | true =>
        cases h3 : wit x.d 1 4 with
        | false =>
          have hr : Hid (false = inB x k) := by show _ = _; unfold inB; first | (rw [h0, h1, h2, h3]; done) | (rw [h0, h1, h2, h3]; rfl)
          go_enter Tryz.func44, Tryz.ntmps44
          go_upto_region 1 with (fail)
          generalize hW : World.alloc _ _ = W0
          obtain ⟨E0, z0, b0⟩ := boxes1 hW
          clear hW z0
          replace b0 := hid (show Blk W0 w.heap.size [_, _, _, _, _, _, _, _] _ from b0)
          have g0 := b0.out.cells
          have l0 := b0.out.lt
          have E := Ext.refl W0
          go_wp2_with (first | (go_at_call 47; refine (l09In_any _ _ _ _).mono ?_; rintro e w2 ⟨rfl, rfl⟩) | (go_at_call 75; refine (rTransform_any x.tr _).mono ?_; rintro e w3 ⟨rfl, E3⟩; replace E := E.trans E3; clear g0 l0 E3; have g0 := (b0.out.ext E).cells; have l0 := (b0.out.ext E).lt))
          all_goals go_ret
          all_goals exact ⟨ret_bool (by rw [← hr.out] <;> simp [h0, h1, h2, h3]), E0.trans E⟩
        | true =>
          cases h4 : wit x.e (-80) 80 with
          | false =>
            have hr : Hid (false = inB x k) := by show _ = _; unfold inB; first | (rw [h0, h1, h2, h3, h4]; done) | (rw [h0, h1, h2, h3, h4]; rfl)
            go_enter Tryz.func44, Tryz.ntmps44
            go_upto_region 1 with (fail)
            generalize hW : World.alloc _ _ = W0
            obtain ⟨E0, z0, b0⟩ := boxes1 hW
            clear hW z0
            replace b0 := hid (show Blk W0 w.heap.size [_, _, _, _, _, _, _, _] _ from b0)
            have g0 := b0.out.cells
            have l0 := b0.out.lt
            have E := Ext.refl W0
            go_wp2_with (first | (go_at_call 47; refine (l09In_any _ _ _ _).mono ?_; rintro e w2 ⟨rfl, rfl⟩) | (go_at_call 75; refine (rTransform_any x.tr _).mono ?_; rintro e w3 ⟨rfl, E3⟩; replace E := E.trans E3; clear g0 l0 E3; have g0 := (b0.out.ext E).cells; have l0 := (b0.out.ext E).lt))
            all_goals go_ret
            all_goals exact ⟨ret_bool (by rw [← hr.out] <;> simp [h0, h1, h2, h3, h4]), E0.trans E⟩
          | true =>
            cases h5 : wit x.f (-80) 80 with
            | false =>
              have hr : Hid (false = inB x k) := by show _ = _; unfold inB; first | (rw [h0, h1, h2, h3, h4, h5]; done) | (rw [h0, h1, h2, h3, h4, h5]; rfl)
              go_enter Tryz.func44, Tryz.ntmps44
              go_upto_region 1 with (fail)
              generalize hW : World.alloc _ _ = W0
              obtain ⟨E0, z0, b0⟩ := boxes1 hW
              clear hW z0
              replace b0 := hid (show Blk W0 w.heap.size [_, _, _, _, _, _, _, _] _ from b0)
              have g0 := b0.out.cells
              have l0 := b0.out.lt
              have E := Ext.refl W0
              go_wp2_with (first | (go_at_call 47; refine (l09In_any _ _ _ _).mono ?_; rintro e w2 ⟨rfl, rfl⟩) | (go_at_call 75; refine (rTransform_any x.tr _).mono ?_; rintro e w3 ⟨rfl, E3⟩; replace E := E.trans E3; clear g0 l0 E3; have g0 := (b0.out.ext E).cells; have l0 := (b0.out.ext E).lt))
              all_goals go_ret
              all_goals exact ⟨ret_bool (by rw [← hr.out] <;> simp [h0, h1, h2, h3, h4, h5]), E0.trans E⟩
            | true =>
              cases h6 : (decide (x.e = 0) || decide (1 < x.c)) with
              | false =>
                have hr : Hid (false = inB x k) := by show _ = _; unfold inB; first | (rw [h0, h1, h2, h3, h4, h5, h6]; done) | (rw [h0, h1, h2, h3, h4, h5, h6]; rfl)
                go_enter Tryz.func44, Tryz.ntmps44
                go_upto_region 1 with (fail)
                generalize hW : World.alloc _ _ = W0
                obtain ⟨E0, z0, b0⟩ := boxes1 hW
                clear hW z0
                replace b0 := hid (show Blk W0 w.heap.size [_, _, _, _, _, _, _, _] _ from b0)
                have g0 := b0.out.cells
                have l0 := b0.out.lt
                have E := Ext.refl W0
                go_wp2_with (first | (go_at_call 47; refine (l09In_any _ _ _ _).mono ?_; rintro e w2 ⟨rfl, rfl⟩) | (go_at_call 75; refine (rTransform_any x.tr _).mono ?_; rintro e w3 ⟨rfl, E3⟩; replace E := E.trans E3; clear g0 l0 E3; have g0 := (b0.out.ext E).cells; have l0 := (b0.out.ext E).lt))
                all_goals go_ret
                all_goals exact ⟨ret_bool (by rw [← hr.out] <;> first | (revert h6; simp; done) | (revert h6; simp; omega) | (revert h6; simp <;> omega) | omega), E0.trans E⟩
              | true =>
                cases h7 : (decide (x.f = 0) || decide (1 < x.d)) with
                | false =>
                  have hr : Hid (false = inB x k) := by show _ = _; unfold inB; first | (rw [h0, h1, h2, h3, h4, h5, h6, h7]; done) | (rw [h0, h1, h2, h3, h4, h5, h6, h7]; rfl)
                  go_enter Tryz.func44, Tryz.ntmps44
                  go_upto_region 1 with (fail)
                  generalize hW : World.alloc _ _ = W0
                  obtain ⟨E0, z0, b0⟩ := boxes1 hW
                  clear hW z0
                  replace b0 := hid (show Blk W0 w.heap.size [_, _, _, _, _, _, _, _] _ from b0)
                  have g0 := b0.out.cells
                  have l0 := b0.out.lt
                  have E := Ext.refl W0
                  go_wp2_with (first | (go_at_call 47; refine (l09In_any _ _ _ _).mono ?_; rintro e w2 ⟨rfl, rfl⟩) | (go_at_call 75; refine (rTransform_any x.tr _).mono ?_; rintro e w3 ⟨rfl, E3⟩; replace E := E.trans E3; clear g0 l0 E3; have g0 := (b0.out.ext E).cells; have l0 := (b0.out.ext E).lt))
                  all_goals go_ret
                  all_goals exact ⟨ret_bool (by rw [← hr.out] <;> first | (revert h6 h7; simp; done) | (revert h6 h7; simp; omega) | (revert h6 h7; simp <;> omega) | omega), E0.trans E⟩
                | true =>
                  have hr : Hid (true = inB x k) := by show _ = _; unfold inB; first | (rw [h0, h1, h2, h3, h4, h5, h6, h7]; done) | (rw [h0, h1, h2, h3, h4, h5, h6, h7]; rfl)
                  go_enter Tryz.func44, Tryz.ntmps44
                  go_upto_region 1 with (fail)
                  generalize hW : World.alloc _ _ = W0
                  obtain ⟨E0, z0, b0⟩ := boxes1 hW
                  clear hW z0
                  replace b0 := hid (show Blk W0 w.heap.size [_, _, _, _, _, _, _, _] _ from b0)
                  have g0 := b0.out.cells
                  have l0 := b0.out.lt
                  have E := Ext.refl W0
                  go_wp2_with (first | (go_at_call 47; refine (l09In_any _ _ _ _).mono ?_; rintro e w2 ⟨rfl, rfl⟩) | (go_at_call 75; refine (rTransform_any x.tr _).mono ?_; rintro e w3 ⟨rfl, E3⟩; replace E := E.trans E3; clear g0 l0 E3; have g0 := (b0.out.ext E).cells; have l0 := (b0.out.ext E).lt))
                  all_goals go_ret
                  all_goals exact ⟨ret_bool (by rw [← hr.out] <;> first | (revert h6 h7; simp; done) | (revert h6 h7; simp; omega) | (revert h6 h7; simp <;> omega) | omega), E0.trans E⟩

end Go.Proofs.YtncmhefendhinaaGreatDoor
