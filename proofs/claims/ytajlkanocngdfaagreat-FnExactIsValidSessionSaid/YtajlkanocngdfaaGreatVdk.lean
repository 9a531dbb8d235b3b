/- Validity of rules and decks, program and reference. Condition: lengths that fit. -/
import Derived.Test.YtajlkanocngdfaaGreatVlb
namespace Go.Proofs.YtajlkanocngdfaaGreat
open Go.RowKit Go.PlainAid

def ruB (r : RuD) : Bool := wit r.a 0 5 && (wit r.b 0 7 && ((if r.a = 2 ∨ r.a = 3 then wit r.c 0 7 && !(r.c == r.b) else (r.c == 0)) && (if r.a = 4 then wit r.d 1 6400 && (r.e == 0) else if r.a = 5 then wit r.d 4 40 && wit r.e 1 100 else wit r.d 1 8 && (r.e == 0))))
def eqR (x y : RuD) : Bool := x.a == y.a && (x.b == y.b && (x.c == y.c && (x.d == y.d && x.e == y.e)))
theorem eqR_self (x : RuD) : eqR x x = true := by simp [eqR]
theorem eqR_comm (x y : RuD) : eqR x y = eqR y x := by
  unfold eqR
  have h : ∀ a b : Int, (a == b) = (b == a) := fun a b => Bool.eq_iff_iff.2 (by simp only [beq_iff_eq]; exact eq_comm)
  rw [h x.a, h x.b, h x.c, h x.d, h x.e]

theorem ruP_0 (b c d e : Int) : ruB ⟨0, b, c, d, e⟩ = (wit b 0 7 && ((c == 0) && (wit d 1 8 && ((e == 0))))) := by
  have h : ruB ⟨0, b, c, d, e⟩ = (wit 0 0 5 && (wit b 0 7 && (((c == 0)) && (wit d 1 8 && ((e == 0)))))) := rfl
  rw [h, show wit 0 0 5 = true from by decide]
  generalize wit b 0 7 = P
  generalize (c == 0) = Q
  generalize wit d 1 8 = R
  generalize (e == 0) = S
  revert P Q R S
  decide

theorem ruR_0 (b c d e : Int) : ruB ⟨0, b, c, d, e⟩ = (wit b 0 7 && (wit d 1 8 && ((c == 0) && ((e == 0))))) := by
  rw [ruP_0]
  generalize wit b 0 7 = P
  generalize (c == 0) = Q
  generalize wit d 1 8 = R
  generalize (e == 0) = S
  revert P Q R S
  decide

theorem ruP_1 (b c d e : Int) : ruB ⟨1, b, c, d, e⟩ = (wit b 0 7 && ((c == 0) && (wit d 1 8 && ((e == 0))))) := by
  have h : ruB ⟨1, b, c, d, e⟩ = (wit 1 0 5 && (wit b 0 7 && (((c == 0)) && (wit d 1 8 && ((e == 0)))))) := rfl
  rw [h, show wit 1 0 5 = true from by decide]
  generalize wit b 0 7 = P
  generalize (c == 0) = Q
  generalize wit d 1 8 = R
  generalize (e == 0) = S
  revert P Q R S
  decide

theorem ruR_1 (b c d e : Int) : ruB ⟨1, b, c, d, e⟩ = (wit b 0 7 && (wit d 1 8 && ((c == 0) && ((e == 0))))) := by
  rw [ruP_1]
  generalize wit b 0 7 = P
  generalize (c == 0) = Q
  generalize wit d 1 8 = R
  generalize (e == 0) = S
  revert P Q R S
  decide

theorem ruP_2 (b c d e : Int) : ruB ⟨2, b, c, d, e⟩ = (wit b 0 7 && (wit c 0 7 && (!(c == b) && (wit d 1 8 && ((e == 0)))))) := by
  have h : ruB ⟨2, b, c, d, e⟩ = (wit 2 0 5 && (wit b 0 7 && ((wit c 0 7 && (!(c == b))) && (wit d 1 8 && ((e == 0)))))) := rfl
  rw [h, show wit 2 0 5 = true from by decide]
  generalize wit b 0 7 = P
  generalize wit c 0 7 = Q
  generalize (c == b) = R
  generalize wit d 1 8 = S
  generalize (e == 0) = T
  revert P Q R S T
  decide

theorem ruR_2 (b c d e : Int) : ruB ⟨2, b, c, d, e⟩ = (wit b 0 7 && (wit d 1 8 && (wit c 0 7 && (!(c == b) && ((e == 0)))))) := by
  rw [ruP_2]
  generalize wit b 0 7 = P
  generalize wit c 0 7 = Q
  generalize (c == b) = R
  generalize wit d 1 8 = S
  generalize (e == 0) = T
  revert P Q R S T
  decide

theorem ruP_3 (b c d e : Int) : ruB ⟨3, b, c, d, e⟩ = (wit b 0 7 && (wit c 0 7 && (!(c == b) && (wit d 1 8 && ((e == 0)))))) := by
  have h : ruB ⟨3, b, c, d, e⟩ = (wit 3 0 5 && (wit b 0 7 && ((wit c 0 7 && (!(c == b))) && (wit d 1 8 && ((e == 0)))))) := rfl
  rw [h, show wit 3 0 5 = true from by decide]
  generalize wit b 0 7 = P
  generalize wit c 0 7 = Q
  generalize (c == b) = R
  generalize wit d 1 8 = S
  generalize (e == 0) = T
  revert P Q R S T
  decide

theorem ruR_3 (b c d e : Int) : ruB ⟨3, b, c, d, e⟩ = (wit b 0 7 && (wit d 1 8 && (wit c 0 7 && (!(c == b) && ((e == 0)))))) := by
  rw [ruP_3]
  generalize wit b 0 7 = P
  generalize wit c 0 7 = Q
  generalize (c == b) = R
  generalize wit d 1 8 = S
  generalize (e == 0) = T
  revert P Q R S T
  decide

theorem ruP_4 (b c d e : Int) : ruB ⟨4, b, c, d, e⟩ = (wit b 0 7 && ((c == 0) && (wit d 1 6400 && ((e == 0))))) := by
  have h : ruB ⟨4, b, c, d, e⟩ = (wit 4 0 5 && (wit b 0 7 && (((c == 0)) && (wit d 1 6400 && ((e == 0)))))) := rfl
  rw [h, show wit 4 0 5 = true from by decide]
  generalize wit b 0 7 = P
  generalize (c == 0) = Q
  generalize wit d 1 6400 = R
  generalize (e == 0) = S
  revert P Q R S
  decide

theorem ruR_4 (b c d e : Int) : ruB ⟨4, b, c, d, e⟩ = (wit b 0 7 && (wit d 1 6400 && ((c == 0) && ((e == 0))))) := by
  rw [ruP_4]
  generalize wit b 0 7 = P
  generalize (c == 0) = Q
  generalize wit d 1 6400 = R
  generalize (e == 0) = S
  revert P Q R S
  decide

theorem ruP_5 (b c d e : Int) : ruB ⟨5, b, c, d, e⟩ = (wit b 0 7 && ((c == 0) && (wit d 4 40 && (wit e 1 100)))) := by
  have h : ruB ⟨5, b, c, d, e⟩ = (wit 5 0 5 && (wit b 0 7 && (((c == 0)) && (wit d 4 40 && (wit e 1 100))))) := rfl
  rw [h, show wit 5 0 5 = true from by decide]
  generalize wit b 0 7 = P
  generalize (c == 0) = Q
  generalize wit d 4 40 = R
  generalize wit e 1 100 = S
  revert P Q R S
  decide

theorem ruR_5 (b c d e : Int) : ruB ⟨5, b, c, d, e⟩ = (wit b 0 7 && (wit d 4 40 && ((c == 0) && (wit e 1 100)))) := by
  rw [ruP_5]
  generalize wit b 0 7 = P
  generalize (c == 0) = Q
  generalize wit d 4 40 = R
  generalize wit e 1 100 = S
  revert P Q R S
  decide

set_option maxRecDepth 100000 in
set_option maxHeartbeats 4000000 in
theorem hasOther_any (a : Int) (r : Bool) (h : (a == 2 || a == 3) = r) (w : World) :
    Calls Tryz.prog 86 #[.int .i64 a] w fun e w' => e = .returned (.bool r) ∧ w = w' := by
  by_cases h2 : a = 2
  · subst h2
    obtain rfl : true = r := h
    go_enter Tryz.func86, Tryz.ntmps86
    go_wp2
    go_ret
    exact ⟨rfl, rfl⟩
  · by_cases h3 : a = 3
    · subst h3
      obtain rfl : true = r := h
      go_enter Tryz.func86, Tryz.ntmps86
      go_wp2
      go_ret
      exact ⟨rfl, rfl⟩
    · have q2 : (a == 2) = false := by simpa using h2
      have q3 : (a == 3) = false := by simpa using h3
      rw [q2, q3] at h
      obtain rfl : false = r := h
      go_enter Tryz.func86, Tryz.ntmps86
      go_wp2
      go_ret
      exact ⟨rfl, rfl⟩

set_option maxRecDepth 100000 in
set_option maxHeartbeats 4000000 in
theorem l16Paired_any (a : Int) (r : Bool) (h : (a == 2 || a == 3) = r) (w : World) :
    Calls Tryz.prog 72 #[.int .i64 a] w fun e w' => e = .returned (.bool r) ∧ w = w' := by
  by_cases h2 : a = 2
  · subst h2
    obtain rfl : true = r := h
    go_enter Tryz.func72, Tryz.ntmps72
    go_wp2
    go_ret
    exact ⟨rfl, rfl⟩
  · by_cases h3 : a = 3
    · subst h3
      obtain rfl : true = r := h
      go_enter Tryz.func72, Tryz.ntmps72
      go_wp2
      go_ret
      exact ⟨rfl, rfl⟩
    · have q2 : (a == 2) = false := by simpa using h2
      have q3 : (a == 3) = false := by simpa using h3
      rw [q2, q3] at h
      obtain rfl : false = r := h
      go_enter Tryz.func72, Tryz.ntmps72
      go_wp2
      go_ret
      exact ⟨rfl, rfl⟩

set_option maxRecDepth 100000 in
set_option maxHeartbeats 4000000 in
theorem rVal0 (b c d e : Int) (w : World) :
    Calls Tryz.prog 71 #[.agg #[.int .i64 0, .int .i64 b, .int .i64 c, .int .i64 d, .int .i64 e]] w fun e w' => e = .returned (.bool (wit d 1 8)) ∧ Ext w w' := by
  go_enter Tryz.func71, Tryz.ntmps71
  go_upto_region 1 with (fail)
  generalize hW : World.alloc _ _ = W0
  obtain ⟨E0, z0, b0⟩ := boxes1 hW
  clear hW z0
  replace b0 := hid (show Blk W0 (w.heap.size) [_, _, _, _, _] _ from b0)
  have g0 := b0.out.cells
  have l0 := b0.out.lt
  have E := Ext.refl W0
  go_wp2_with (first | (go_at_call 40; refine (l16In_any _ _ _ _).mono ?_; rintro e w2 ⟨rfl, rfl⟩))
  go_ret
  exact ⟨rfl, E0.trans E⟩
set_option maxRecDepth 100000 in
set_option maxHeartbeats 4000000 in
theorem rVal1 (b c d e : Int) (w : World) :
    Calls Tryz.prog 71 #[.agg #[.int .i64 1, .int .i64 b, .int .i64 c, .int .i64 d, .int .i64 e]] w fun e w' => e = .returned (.bool (wit d 1 8)) ∧ Ext w w' := by
  go_enter Tryz.func71, Tryz.ntmps71
  go_upto_region 1 with (fail)
  generalize hW : World.alloc _ _ = W0
  obtain ⟨E0, z0, b0⟩ := boxes1 hW
  clear hW z0
  replace b0 := hid (show Blk W0 (w.heap.size) [_, _, _, _, _] _ from b0)
  have g0 := b0.out.cells
  have l0 := b0.out.lt
  have E := Ext.refl W0
  go_wp2_with (first | (go_at_call 40; refine (l16In_any _ _ _ _).mono ?_; rintro e w2 ⟨rfl, rfl⟩))
  go_ret
  exact ⟨rfl, E0.trans E⟩
set_option maxRecDepth 100000 in
set_option maxHeartbeats 4000000 in
theorem rVal2 (b c d e : Int) (w : World) :
    Calls Tryz.prog 71 #[.agg #[.int .i64 2, .int .i64 b, .int .i64 c, .int .i64 d, .int .i64 e]] w fun e w' => e = .returned (.bool (wit d 1 8)) ∧ Ext w w' := by
  go_enter Tryz.func71, Tryz.ntmps71
  go_upto_region 1 with (fail)
  generalize hW : World.alloc _ _ = W0
  obtain ⟨E0, z0, b0⟩ := boxes1 hW
  clear hW z0
  replace b0 := hid (show Blk W0 (w.heap.size) [_, _, _, _, _] _ from b0)
  have g0 := b0.out.cells
  have l0 := b0.out.lt
  have E := Ext.refl W0
  go_wp2_with (first | (go_at_call 40; refine (l16In_any _ _ _ _).mono ?_; rintro e w2 ⟨rfl, rfl⟩))
  go_ret
  exact ⟨rfl, E0.trans E⟩
set_option maxRecDepth 100000 in
set_option maxHeartbeats 4000000 in
theorem rVal3 (b c d e : Int) (w : World) :
    Calls Tryz.prog 71 #[.agg #[.int .i64 3, .int .i64 b, .int .i64 c, .int .i64 d, .int .i64 e]] w fun e w' => e = .returned (.bool (wit d 1 8)) ∧ Ext w w' := by
  go_enter Tryz.func71, Tryz.ntmps71
  go_upto_region 1 with (fail)
  generalize hW : World.alloc _ _ = W0
  obtain ⟨E0, z0, b0⟩ := boxes1 hW
  clear hW z0
  replace b0 := hid (show Blk W0 (w.heap.size) [_, _, _, _, _] _ from b0)
  have g0 := b0.out.cells
  have l0 := b0.out.lt
  have E := Ext.refl W0
  go_wp2_with (first | (go_at_call 40; refine (l16In_any _ _ _ _).mono ?_; rintro e w2 ⟨rfl, rfl⟩))
  go_ret
  exact ⟨rfl, E0.trans E⟩
set_option maxRecDepth 100000 in
set_option maxHeartbeats 4000000 in
theorem rVal4 (b c d e : Int) (w : World) :
    Calls Tryz.prog 71 #[.agg #[.int .i64 4, .int .i64 b, .int .i64 c, .int .i64 d, .int .i64 e]] w fun e w' => e = .returned (.bool (wit d 1 6400)) ∧ Ext w w' := by
  go_enter Tryz.func71, Tryz.ntmps71
  go_upto_region 1 with (fail)
  generalize hW : World.alloc _ _ = W0
  obtain ⟨E0, z0, b0⟩ := boxes1 hW
  clear hW z0
  replace b0 := hid (show Blk W0 (w.heap.size) [_, _, _, _, _] _ from b0)
  have g0 := b0.out.cells
  have l0 := b0.out.lt
  have E := Ext.refl W0
  go_wp2_with (first | (go_at_call 40; refine (l16In_any _ _ _ _).mono ?_; rintro e w2 ⟨rfl, rfl⟩))
  go_ret
  exact ⟨rfl, E0.trans E⟩
set_option maxRecDepth 100000 in
set_option maxHeartbeats 4000000 in
theorem rVal5 (b c d e : Int) (w : World) :
    Calls Tryz.prog 71 #[.agg #[.int .i64 5, .int .i64 b, .int .i64 c, .int .i64 d, .int .i64 e]] w fun e w' => e = .returned (.bool (wit d 4 40)) ∧ Ext w w' := by
  go_enter Tryz.func71, Tryz.ntmps71
  go_upto_region 1 with (fail)
  generalize hW : World.alloc _ _ = W0
  obtain ⟨E0, z0, b0⟩ := boxes1 hW
  clear hW z0
  replace b0 := hid (show Blk W0 (w.heap.size) [_, _, _, _, _] _ from b0)
  have g0 := b0.out.cells
  have l0 := b0.out.lt
  have E := Ext.refl W0
  go_wp2_with (first | (go_at_call 40; refine (l16In_any _ _ _ _).mono ?_; rintro e w2 ⟨rfl, rfl⟩))
  go_ret
  exact ⟨rfl, E0.trans E⟩
set_option maxRecDepth 100000 in
set_option maxHeartbeats 4000000 in
theorem pRu0 (b c d e : Int) (w : World) :
    Calls Tryz.prog 51 #[.agg #[.int .i64 0, .int .i64 b, .int .i64 c, .int .i64 d, .int .i64 e]] w fun e_ w' => e_ = .returned (.bool (ruB ⟨0, b, c, d, e⟩)) ∧ Ext w w' := by
  have hk : wit 0 0 5 = true := by decide
  cases a0 : wit b 0 7 with
  | false =>
    have hr : Hid (false = ruB ⟨0, b, c, d, e⟩) := by show _ = _; rw [ruP_0, a0]; rfl
    go_enter Tryz.func51, Tryz.ntmps51
    go_upto_region 1 with (fail)
    generalize hW : World.alloc _ _ = W0
    obtain ⟨E0, z0, b0⟩ := boxes1 hW
    clear hW z0
    replace b0 := hid (show Blk W0 (w.heap.size) [_, _, _, _, _] _ from b0)
    have g0 := b0.out.cells
    have l0 := b0.out.lt
    have E := Ext.refl W0
    go_wp2_with (first | (go_at_call 54; refine (within_any _ _ _ _).mono ?_; rintro e w2 ⟨rfl, rfl⟩) | (go_at_call 86; refine (hasOther_any 0 false rfl _).mono ?_; rintro e w2 ⟨rfl, rfl⟩))
    go_ret
    exact ⟨ret_bool hr.out, E0.trans E⟩
  | true =>
    cases a1 : (c == 0) with
    | false =>
      have hr : Hid (false = ruB ⟨0, b, c, d, e⟩) := by show _ = _; rw [ruP_0, a0, a1]; rfl
      have q1 : ¬ c = 0 := by simpa using a1
      go_enter Tryz.func51, Tryz.ntmps51
      go_upto_region 1 with (fail)
      generalize hW : World.alloc _ _ = W0
      obtain ⟨E0, z0, b0⟩ := boxes1 hW
      clear hW z0
      replace b0 := hid (show Blk W0 (w.heap.size) [_, _, _, _, _] _ from b0)
      have g0 := b0.out.cells
      have l0 := b0.out.lt
      have E := Ext.refl W0
      go_wp2_with (first | (go_at_call 54; refine (within_any _ _ _ _).mono ?_; rintro e w2 ⟨rfl, rfl⟩) | (go_at_call 86; refine (hasOther_any 0 false rfl _).mono ?_; rintro e w2 ⟨rfl, rfl⟩))
      go_ret
      exact ⟨ret_bool hr.out, E0.trans E⟩
    | true =>
      have q1 : c = 0 := by simpa using a1
      cases a2 : wit d 1 8 with
      | false =>
        have hr : Hid (false = ruB ⟨0, b, c, d, e⟩) := by show _ = _; rw [ruP_0, a0, a1, a2]; rfl
        go_enter Tryz.func51, Tryz.ntmps51
        go_upto_region 1 with (fail)
        generalize hW : World.alloc _ _ = W0
        obtain ⟨E0, z0, b0⟩ := boxes1 hW
        clear hW z0
        replace b0 := hid (show Blk W0 (w.heap.size) [_, _, _, _, _] _ from b0)
        have g0 := b0.out.cells
        have l0 := b0.out.lt
        have E := Ext.refl W0
        go_wp2_with (first | (go_at_call 54; refine (within_any _ _ _ _).mono ?_; rintro e w2 ⟨rfl, rfl⟩) | (go_at_call 86; refine (hasOther_any 0 false rfl _).mono ?_; rintro e w2 ⟨rfl, rfl⟩))
        go_ret
        exact ⟨ret_bool hr.out, E0.trans E⟩
      | true =>
        cases a3 : (e == 0) with
        | false =>
          have hr : Hid (false = ruB ⟨0, b, c, d, e⟩) := by show _ = _; rw [ruP_0, a0, a1, a2, a3]; rfl
          have q3 : ¬ e = 0 := by simpa using a3
          go_enter Tryz.func51, Tryz.ntmps51
          go_upto_region 1 with (fail)
          generalize hW : World.alloc _ _ = W0
          obtain ⟨E0, z0, b0⟩ := boxes1 hW
          clear hW z0
          replace b0 := hid (show Blk W0 (w.heap.size) [_, _, _, _, _] _ from b0)
          have g0 := b0.out.cells
          have l0 := b0.out.lt
          have E := Ext.refl W0
          go_wp2_with (first | (go_at_call 54; refine (within_any _ _ _ _).mono ?_; rintro e w2 ⟨rfl, rfl⟩) | (go_at_call 86; refine (hasOther_any 0 false rfl _).mono ?_; rintro e w2 ⟨rfl, rfl⟩))
          go_ret
          exact ⟨ret_bool hr.out, E0.trans E⟩
        | true =>
          have hr : Hid (true = ruB ⟨0, b, c, d, e⟩) := by show _ = _; rw [ruP_0, a0, a1, a2, a3]; rfl
          have q3 : e = 0 := by simpa using a3
          go_enter Tryz.func51, Tryz.ntmps51
          go_upto_region 1 with (fail)
          generalize hW : World.alloc _ _ = W0
          obtain ⟨E0, z0, b0⟩ := boxes1 hW
          clear hW z0
          replace b0 := hid (show Blk W0 (w.heap.size) [_, _, _, _, _] _ from b0)
          have g0 := b0.out.cells
          have l0 := b0.out.lt
          have E := Ext.refl W0
          go_wp2_with (first | (go_at_call 54; refine (within_any _ _ _ _).mono ?_; rintro e w2 ⟨rfl, rfl⟩) | (go_at_call 86; refine (hasOther_any 0 false rfl _).mono ?_; rintro e w2 ⟨rfl, rfl⟩))
          go_ret
          exact ⟨ret_bool hr.out, E0.trans E⟩

set_option maxRecDepth 100000 in
set_option maxHeartbeats 4000000 in
theorem rRu0 (b c d e : Int) (w : World) :
    Calls Tryz.prog 37 #[.agg #[.int .i64 0, .int .i64 b, .int .i64 c, .int .i64 d, .int .i64 e]] w fun e_ w' => e_ = .returned (.bool (ruB ⟨0, b, c, d, e⟩)) ∧ Ext w w' := by
  have hk : wit 0 0 5 = true := by decide
  cases a0 : wit b 0 7 with
  | false =>
    have hr : Hid (false = ruB ⟨0, b, c, d, e⟩) := by show _ = _; rw [ruR_0, a0]; rfl
    go_enter Tryz.func37, Tryz.ntmps37
    go_upto_region 1 with (fail)
    generalize hW : World.alloc _ _ = W0
    obtain ⟨E0, z0, b0⟩ := boxes1 hW
    clear hW z0
    replace b0 := hid (show Blk W0 (w.heap.size) [_, _, _, _, _] _ from b0)
    have g0 := b0.out.cells
    have l0 := b0.out.lt
    have E := Ext.refl W0
    go_wp2_with (first | (go_at_call 40; refine (l16In_any _ _ _ _).mono ?_; rintro e w2 ⟨rfl, rfl⟩) | (go_at_call 72; refine (l16Paired_any 0 false rfl _).mono ?_; rintro e w2 ⟨rfl, rfl⟩) | (go_at_call 71; refine (rVal0 _ _ _ _ _).mono ?_; rintro e w7 ⟨rfl, E7⟩; replace E := E.trans E7; clear g0 l0 E7; have g0 := (b0.out.ext E).cells; have l0 := (b0.out.ext E).lt))
    go_ret
    exact ⟨ret_bool hr.out, E0.trans E⟩
  | true =>
    cases a1 : wit d 1 8 with
    | false =>
      have hr : Hid (false = ruB ⟨0, b, c, d, e⟩) := by show _ = _; rw [ruR_0, a0, a1]; rfl
      go_enter Tryz.func37, Tryz.ntmps37
      go_upto_region 1 with (fail)
      generalize hW : World.alloc _ _ = W0
      obtain ⟨E0, z0, b0⟩ := boxes1 hW
      clear hW z0
      replace b0 := hid (show Blk W0 (w.heap.size) [_, _, _, _, _] _ from b0)
      have g0 := b0.out.cells
      have l0 := b0.out.lt
      have E := Ext.refl W0
      go_wp2_with (first | (go_at_call 40; refine (l16In_any _ _ _ _).mono ?_; rintro e w2 ⟨rfl, rfl⟩) | (go_at_call 72; refine (l16Paired_any 0 false rfl _).mono ?_; rintro e w2 ⟨rfl, rfl⟩) | (go_at_call 71; refine (rVal0 _ _ _ _ _).mono ?_; rintro e w7 ⟨rfl, E7⟩; replace E := E.trans E7; clear g0 l0 E7; have g0 := (b0.out.ext E).cells; have l0 := (b0.out.ext E).lt))
      go_ret
      exact ⟨ret_bool hr.out, E0.trans E⟩
    | true =>
      cases a2 : (c == 0) with
      | false =>
        have hr : Hid (false = ruB ⟨0, b, c, d, e⟩) := by show _ = _; rw [ruR_0, a0, a1, a2]; rfl
        have q2 : ¬ c = 0 := by simpa using a2
        go_enter Tryz.func37, Tryz.ntmps37
        go_upto_region 1 with (fail)
        generalize hW : World.alloc _ _ = W0
        obtain ⟨E0, z0, b0⟩ := boxes1 hW
        clear hW z0
        replace b0 := hid (show Blk W0 (w.heap.size) [_, _, _, _, _] _ from b0)
        have g0 := b0.out.cells
        have l0 := b0.out.lt
        have E := Ext.refl W0
        go_wp2_with (first | (go_at_call 40; refine (l16In_any _ _ _ _).mono ?_; rintro e w2 ⟨rfl, rfl⟩) | (go_at_call 72; refine (l16Paired_any 0 false rfl _).mono ?_; rintro e w2 ⟨rfl, rfl⟩) | (go_at_call 71; refine (rVal0 _ _ _ _ _).mono ?_; rintro e w7 ⟨rfl, E7⟩; replace E := E.trans E7; clear g0 l0 E7; have g0 := (b0.out.ext E).cells; have l0 := (b0.out.ext E).lt))
        go_ret
        exact ⟨ret_bool hr.out, E0.trans E⟩
      | true =>
        have q2 : c = 0 := by simpa using a2
        cases a3 : (e == 0) with
        | false =>
          have hr : Hid (false = ruB ⟨0, b, c, d, e⟩) := by show _ = _; rw [ruR_0, a0, a1, a2, a3]; rfl
          have q3 : ¬ e = 0 := by simpa using a3
          go_enter Tryz.func37, Tryz.ntmps37
          go_upto_region 1 with (fail)
          generalize hW : World.alloc _ _ = W0
          obtain ⟨E0, z0, b0⟩ := boxes1 hW
          clear hW z0
          replace b0 := hid (show Blk W0 (w.heap.size) [_, _, _, _, _] _ from b0)
          have g0 := b0.out.cells
          have l0 := b0.out.lt
          have E := Ext.refl W0
          go_wp2_with (first | (go_at_call 40; refine (l16In_any _ _ _ _).mono ?_; rintro e w2 ⟨rfl, rfl⟩) | (go_at_call 72; refine (l16Paired_any 0 false rfl _).mono ?_; rintro e w2 ⟨rfl, rfl⟩) | (go_at_call 71; refine (rVal0 _ _ _ _ _).mono ?_; rintro e w7 ⟨rfl, E7⟩; replace E := E.trans E7; clear g0 l0 E7; have g0 := (b0.out.ext E).cells; have l0 := (b0.out.ext E).lt))
          go_ret
          exact ⟨ret_bool hr.out, E0.trans E⟩
        | true =>
          have hr : Hid (true = ruB ⟨0, b, c, d, e⟩) := by show _ = _; rw [ruR_0, a0, a1, a2, a3]; rfl
          have q3 : e = 0 := by simpa using a3
          go_enter Tryz.func37, Tryz.ntmps37
          go_upto_region 1 with (fail)
          generalize hW : World.alloc _ _ = W0
          obtain ⟨E0, z0, b0⟩ := boxes1 hW
          clear hW z0
          replace b0 := hid (show Blk W0 (w.heap.size) [_, _, _, _, _] _ from b0)
          have g0 := b0.out.cells
          have l0 := b0.out.lt
          have E := Ext.refl W0
          go_wp2_with (first | (go_at_call 40; refine (l16In_any _ _ _ _).mono ?_; rintro e w2 ⟨rfl, rfl⟩) | (go_at_call 72; refine (l16Paired_any 0 false rfl _).mono ?_; rintro e w2 ⟨rfl, rfl⟩) | (go_at_call 71; refine (rVal0 _ _ _ _ _).mono ?_; rintro e w7 ⟨rfl, E7⟩; replace E := E.trans E7; clear g0 l0 E7; have g0 := (b0.out.ext E).cells; have l0 := (b0.out.ext E).lt))
          go_ret
          exact ⟨ret_bool hr.out, E0.trans E⟩

set_option maxRecDepth 100000 in
set_option maxHeartbeats 4000000 in
theorem pRu1 (b c d e : Int) (w : World) :
    Calls Tryz.prog 51 #[.agg #[.int .i64 1, .int .i64 b, .int .i64 c, .int .i64 d, .int .i64 e]] w fun e_ w' => e_ = .returned (.bool (ruB ⟨1, b, c, d, e⟩)) ∧ Ext w w' := by
  have hk : wit 1 0 5 = true := by decide
  cases a0 : wit b 0 7 with
  | false =>
    have hr : Hid (false = ruB ⟨1, b, c, d, e⟩) := by show _ = _; rw [ruP_1, a0]; rfl
    go_enter Tryz.func51, Tryz.ntmps51
    go_upto_region 1 with (fail)
    generalize hW : World.alloc _ _ = W0
    obtain ⟨E0, z0, b0⟩ := boxes1 hW
    clear hW z0
    replace b0 := hid (show Blk W0 (w.heap.size) [_, _, _, _, _] _ from b0)
    have g0 := b0.out.cells
    have l0 := b0.out.lt
    have E := Ext.refl W0
    go_wp2_with (first | (go_at_call 54; refine (within_any _ _ _ _).mono ?_; rintro e w2 ⟨rfl, rfl⟩) | (go_at_call 86; refine (hasOther_any 1 false rfl _).mono ?_; rintro e w2 ⟨rfl, rfl⟩))
    go_ret
    exact ⟨ret_bool hr.out, E0.trans E⟩
  | true =>
    cases a1 : (c == 0) with
    | false =>
      have hr : Hid (false = ruB ⟨1, b, c, d, e⟩) := by show _ = _; rw [ruP_1, a0, a1]; rfl
      have q1 : ¬ c = 0 := by simpa using a1
      go_enter Tryz.func51, Tryz.ntmps51
      go_upto_region 1 with (fail)
      generalize hW : World.alloc _ _ = W0
      obtain ⟨E0, z0, b0⟩ := boxes1 hW
      clear hW z0
      replace b0 := hid (show Blk W0 (w.heap.size) [_, _, _, _, _] _ from b0)
      have g0 := b0.out.cells
      have l0 := b0.out.lt
      have E := Ext.refl W0
      go_wp2_with (first | (go_at_call 54; refine (within_any _ _ _ _).mono ?_; rintro e w2 ⟨rfl, rfl⟩) | (go_at_call 86; refine (hasOther_any 1 false rfl _).mono ?_; rintro e w2 ⟨rfl, rfl⟩))
      go_ret
      exact ⟨ret_bool hr.out, E0.trans E⟩
    | true =>
      have q1 : c = 0 := by simpa using a1
      cases a2 : wit d 1 8 with
      | false =>
        have hr : Hid (false = ruB ⟨1, b, c, d, e⟩) := by show _ = _; rw [ruP_1, a0, a1, a2]; rfl
        go_enter Tryz.func51, Tryz.ntmps51
        go_upto_region 1 with (fail)
        generalize hW : World.alloc _ _ = W0
        obtain ⟨E0, z0, b0⟩ := boxes1 hW
        clear hW z0
        replace b0 := hid (show Blk W0 (w.heap.size) [_, _, _, _, _] _ from b0)
        have g0 := b0.out.cells
        have l0 := b0.out.lt
        have E := Ext.refl W0
        go_wp2_with (first | (go_at_call 54; refine (within_any _ _ _ _).mono ?_; rintro e w2 ⟨rfl, rfl⟩) | (go_at_call 86; refine (hasOther_any 1 false rfl _).mono ?_; rintro e w2 ⟨rfl, rfl⟩))
        go_ret
        exact ⟨ret_bool hr.out, E0.trans E⟩
      | true =>
        cases a3 : (e == 0) with
        | false =>
          have hr : Hid (false = ruB ⟨1, b, c, d, e⟩) := by show _ = _; rw [ruP_1, a0, a1, a2, a3]; rfl
          have q3 : ¬ e = 0 := by simpa using a3
          go_enter Tryz.func51, Tryz.ntmps51
          go_upto_region 1 with (fail)
          generalize hW : World.alloc _ _ = W0
          obtain ⟨E0, z0, b0⟩ := boxes1 hW
          clear hW z0
          replace b0 := hid (show Blk W0 (w.heap.size) [_, _, _, _, _] _ from b0)
          have g0 := b0.out.cells
          have l0 := b0.out.lt
          have E := Ext.refl W0
          go_wp2_with (first | (go_at_call 54; refine (within_any _ _ _ _).mono ?_; rintro e w2 ⟨rfl, rfl⟩) | (go_at_call 86; refine (hasOther_any 1 false rfl _).mono ?_; rintro e w2 ⟨rfl, rfl⟩))
          go_ret
          exact ⟨ret_bool hr.out, E0.trans E⟩
        | true =>
          have hr : Hid (true = ruB ⟨1, b, c, d, e⟩) := by show _ = _; rw [ruP_1, a0, a1, a2, a3]; rfl
          have q3 : e = 0 := by simpa using a3
          go_enter Tryz.func51, Tryz.ntmps51
          go_upto_region 1 with (fail)
          generalize hW : World.alloc _ _ = W0
          obtain ⟨E0, z0, b0⟩ := boxes1 hW
          clear hW z0
          replace b0 := hid (show Blk W0 (w.heap.size) [_, _, _, _, _] _ from b0)
          have g0 := b0.out.cells
          have l0 := b0.out.lt
          have E := Ext.refl W0
          go_wp2_with (first | (go_at_call 54; refine (within_any _ _ _ _).mono ?_; rintro e w2 ⟨rfl, rfl⟩) | (go_at_call 86; refine (hasOther_any 1 false rfl _).mono ?_; rintro e w2 ⟨rfl, rfl⟩))
          go_ret
          exact ⟨ret_bool hr.out, E0.trans E⟩

set_option maxRecDepth 100000 in
set_option maxHeartbeats 4000000 in
theorem rRu1 (b c d e : Int) (w : World) :
    Calls Tryz.prog 37 #[.agg #[.int .i64 1, .int .i64 b, .int .i64 c, .int .i64 d, .int .i64 e]] w fun e_ w' => e_ = .returned (.bool (ruB ⟨1, b, c, d, e⟩)) ∧ Ext w w' := by
  have hk : wit 1 0 5 = true := by decide
  cases a0 : wit b 0 7 with
  | false =>
    have hr : Hid (false = ruB ⟨1, b, c, d, e⟩) := by show _ = _; rw [ruR_1, a0]; rfl
    go_enter Tryz.func37, Tryz.ntmps37
    go_upto_region 1 with (fail)
    generalize hW : World.alloc _ _ = W0
    obtain ⟨E0, z0, b0⟩ := boxes1 hW
    clear hW z0
    replace b0 := hid (show Blk W0 (w.heap.size) [_, _, _, _, _] _ from b0)
    have g0 := b0.out.cells
    have l0 := b0.out.lt
    have E := Ext.refl W0
    go_wp2_with (first | (go_at_call 40; refine (l16In_any _ _ _ _).mono ?_; rintro e w2 ⟨rfl, rfl⟩) | (go_at_call 72; refine (l16Paired_any 1 false rfl _).mono ?_; rintro e w2 ⟨rfl, rfl⟩) | (go_at_call 71; refine (rVal1 _ _ _ _ _).mono ?_; rintro e w7 ⟨rfl, E7⟩; replace E := E.trans E7; clear g0 l0 E7; have g0 := (b0.out.ext E).cells; have l0 := (b0.out.ext E).lt))
    go_ret
    exact ⟨ret_bool hr.out, E0.trans E⟩
  | true =>
    cases a1 : wit d 1 8 with
    | false =>
      have hr : Hid (false = ruB ⟨1, b, c, d, e⟩) := by show _ = _; rw [ruR_1, a0, a1]; rfl
      go_enter Tryz.func37, Tryz.ntmps37
      go_upto_region 1 with (fail)
      generalize hW : World.alloc _ _ = W0
      obtain ⟨E0, z0, b0⟩ := boxes1 hW
      clear hW z0
      replace b0 := hid (show Blk W0 (w.heap.size) [_, _, _, _, _] _ from b0)
      have g0 := b0.out.cells
      have l0 := b0.out.lt
      have E := Ext.refl W0
      go_wp2_with (first | (go_at_call 40; refine (l16In_any _ _ _ _).mono ?_; rintro e w2 ⟨rfl, rfl⟩) | (go_at_call 72; refine (l16Paired_any 1 false rfl _).mono ?_; rintro e w2 ⟨rfl, rfl⟩) | (go_at_call 71; refine (rVal1 _ _ _ _ _).mono ?_; rintro e w7 ⟨rfl, E7⟩; replace E := E.trans E7; clear g0 l0 E7; have g0 := (b0.out.ext E).cells; have l0 := (b0.out.ext E).lt))
      go_ret
      exact ⟨ret_bool hr.out, E0.trans E⟩
    | true =>
      cases a2 : (c == 0) with
      | false =>
        have hr : Hid (false = ruB ⟨1, b, c, d, e⟩) := by show _ = _; rw [ruR_1, a0, a1, a2]; rfl
        have q2 : ¬ c = 0 := by simpa using a2
        go_enter Tryz.func37, Tryz.ntmps37
        go_upto_region 1 with (fail)
        generalize hW : World.alloc _ _ = W0
        obtain ⟨E0, z0, b0⟩ := boxes1 hW
        clear hW z0
        replace b0 := hid (show Blk W0 (w.heap.size) [_, _, _, _, _] _ from b0)
        have g0 := b0.out.cells
        have l0 := b0.out.lt
        have E := Ext.refl W0
        go_wp2_with (first | (go_at_call 40; refine (l16In_any _ _ _ _).mono ?_; rintro e w2 ⟨rfl, rfl⟩) | (go_at_call 72; refine (l16Paired_any 1 false rfl _).mono ?_; rintro e w2 ⟨rfl, rfl⟩) | (go_at_call 71; refine (rVal1 _ _ _ _ _).mono ?_; rintro e w7 ⟨rfl, E7⟩; replace E := E.trans E7; clear g0 l0 E7; have g0 := (b0.out.ext E).cells; have l0 := (b0.out.ext E).lt))
        go_ret
        exact ⟨ret_bool hr.out, E0.trans E⟩
      | true =>
        have q2 : c = 0 := by simpa using a2
        cases a3 : (e == 0) with
        | false =>
          have hr : Hid (false = ruB ⟨1, b, c, d, e⟩) := by show _ = _; rw [ruR_1, a0, a1, a2, a3]; rfl
          have q3 : ¬ e = 0 := by simpa using a3
          go_enter Tryz.func37, Tryz.ntmps37
          go_upto_region 1 with (fail)
          generalize hW : World.alloc _ _ = W0
          obtain ⟨E0, z0, b0⟩ := boxes1 hW
          clear hW z0
          replace b0 := hid (show Blk W0 (w.heap.size) [_, _, _, _, _] _ from b0)
          have g0 := b0.out.cells
          have l0 := b0.out.lt
          have E := Ext.refl W0
          go_wp2_with (first | (go_at_call 40; refine (l16In_any _ _ _ _).mono ?_; rintro e w2 ⟨rfl, rfl⟩) | (go_at_call 72; refine (l16Paired_any 1 false rfl _).mono ?_; rintro e w2 ⟨rfl, rfl⟩) | (go_at_call 71; refine (rVal1 _ _ _ _ _).mono ?_; rintro e w7 ⟨rfl, E7⟩; replace E := E.trans E7; clear g0 l0 E7; have g0 := (b0.out.ext E).cells; have l0 := (b0.out.ext E).lt))
          go_ret
          exact ⟨ret_bool hr.out, E0.trans E⟩
        | true =>
          have hr : Hid (true = ruB ⟨1, b, c, d, e⟩) := by show _ = _; rw [ruR_1, a0, a1, a2, a3]; rfl
          have q3 : e = 0 := by simpa using a3
          go_enter Tryz.func37, Tryz.ntmps37
          go_upto_region 1 with (fail)
          generalize hW : World.alloc _ _ = W0
          obtain ⟨E0, z0, b0⟩ := boxes1 hW
          clear hW z0
          replace b0 := hid (show Blk W0 (w.heap.size) [_, _, _, _, _] _ from b0)
          have g0 := b0.out.cells
          have l0 := b0.out.lt
          have E := Ext.refl W0
          go_wp2_with (first | (go_at_call 40; refine (l16In_any _ _ _ _).mono ?_; rintro e w2 ⟨rfl, rfl⟩) | (go_at_call 72; refine (l16Paired_any 1 false rfl _).mono ?_; rintro e w2 ⟨rfl, rfl⟩) | (go_at_call 71; refine (rVal1 _ _ _ _ _).mono ?_; rintro e w7 ⟨rfl, E7⟩; replace E := E.trans E7; clear g0 l0 E7; have g0 := (b0.out.ext E).cells; have l0 := (b0.out.ext E).lt))
          go_ret
          exact ⟨ret_bool hr.out, E0.trans E⟩

set_option maxRecDepth 100000 in
set_option maxHeartbeats 4000000 in
theorem pRu2 (b c d e : Int) (w : World) :
    Calls Tryz.prog 51 #[.agg #[.int .i64 2, .int .i64 b, .int .i64 c, .int .i64 d, .int .i64 e]] w fun e_ w' => e_ = .returned (.bool (ruB ⟨2, b, c, d, e⟩)) ∧ Ext w w' := by
  have hk : wit 2 0 5 = true := by decide
  cases a0 : wit b 0 7 with
  | false =>
    have hr : Hid (false = ruB ⟨2, b, c, d, e⟩) := by show _ = _; rw [ruP_2, a0]; rfl
    go_enter Tryz.func51, Tryz.ntmps51
    go_upto_region 1 with (fail)
    generalize hW : World.alloc _ _ = W0
    obtain ⟨E0, z0, b0⟩ := boxes1 hW
    clear hW z0
    replace b0 := hid (show Blk W0 (w.heap.size) [_, _, _, _, _] _ from b0)
    have g0 := b0.out.cells
    have l0 := b0.out.lt
    have E := Ext.refl W0
    go_wp2_with (first | (go_at_call 54; refine (within_any _ _ _ _).mono ?_; rintro e w2 ⟨rfl, rfl⟩) | (go_at_call 86; refine (hasOther_any 2 true rfl _).mono ?_; rintro e w2 ⟨rfl, rfl⟩))
    go_ret
    exact ⟨ret_bool hr.out, E0.trans E⟩
  | true =>
    cases a1 : wit c 0 7 with
    | false =>
      have hr : Hid (false = ruB ⟨2, b, c, d, e⟩) := by show _ = _; rw [ruP_2, a0, a1]; rfl
      go_enter Tryz.func51, Tryz.ntmps51
      go_upto_region 1 with (fail)
      generalize hW : World.alloc _ _ = W0
      obtain ⟨E0, z0, b0⟩ := boxes1 hW
      clear hW z0
      replace b0 := hid (show Blk W0 (w.heap.size) [_, _, _, _, _] _ from b0)
      have g0 := b0.out.cells
      have l0 := b0.out.lt
      have E := Ext.refl W0
      go_wp2_with (first | (go_at_call 54; refine (within_any _ _ _ _).mono ?_; rintro e w2 ⟨rfl, rfl⟩) | (go_at_call 86; refine (hasOther_any 2 true rfl _).mono ?_; rintro e w2 ⟨rfl, rfl⟩))
      go_ret
      exact ⟨ret_bool hr.out, E0.trans E⟩
    | true =>
      cases a2 : !(c == b) with
      | false =>
        have hr : Hid (false = ruB ⟨2, b, c, d, e⟩) := by show _ = _; rw [ruP_2, a0, a1, a2]; rfl
        have q2 : c = b := by simpa using a2
        go_enter Tryz.func51, Tryz.ntmps51
        go_upto_region 1 with (fail)
        generalize hW : World.alloc _ _ = W0
        obtain ⟨E0, z0, b0⟩ := boxes1 hW
        clear hW z0
        replace b0 := hid (show Blk W0 (w.heap.size) [_, _, _, _, _] _ from b0)
        have g0 := b0.out.cells
        have l0 := b0.out.lt
        have E := Ext.refl W0
        go_wp2_with (first | (go_at_call 54; refine (within_any _ _ _ _).mono ?_; rintro e w2 ⟨rfl, rfl⟩) | (go_at_call 86; refine (hasOther_any 2 true rfl _).mono ?_; rintro e w2 ⟨rfl, rfl⟩))
        go_ret
        exact ⟨ret_bool hr.out, E0.trans E⟩
      | true =>
        have q2 : ¬ c = b := by simpa using a2
        cases a3 : wit d 1 8 with
        | false =>
          have hr : Hid (false = ruB ⟨2, b, c, d, e⟩) := by show _ = _; rw [ruP_2, a0, a1, a2, a3]; rfl
          go_enter Tryz.func51, Tryz.ntmps51
          go_upto_region 1 with (fail)
          generalize hW : World.alloc _ _ = W0
          obtain ⟨E0, z0, b0⟩ := boxes1 hW
          clear hW z0
          replace b0 := hid (show Blk W0 (w.heap.size) [_, _, _, _, _] _ from b0)
          have g0 := b0.out.cells
          have l0 := b0.out.lt
          have E := Ext.refl W0
          go_wp2_with (first | (go_at_call 54; refine (within_any _ _ _ _).mono ?_; rintro e w2 ⟨rfl, rfl⟩) | (go_at_call 86; refine (hasOther_any 2 true rfl _).mono ?_; rintro e w2 ⟨rfl, rfl⟩))
          go_ret
          exact ⟨ret_bool hr.out, E0.trans E⟩
        | true =>
          cases a4 : (e == 0) with
          | false =>
            have hr : Hid (false = ruB ⟨2, b, c, d, e⟩) := by show _ = _; rw [ruP_2, a0, a1, a2, a3, a4]; rfl
            have q4 : ¬ e = 0 := by simpa using a4
            go_enter Tryz.func51, Tryz.ntmps51
            go_upto_region 1 with (fail)
            generalize hW : World.alloc _ _ = W0
            obtain ⟨E0, z0, b0⟩ := boxes1 hW
            clear hW z0
            replace b0 := hid (show Blk W0 (w.heap.size) [_, _, _, _, _] _ from b0)
            have g0 := b0.out.cells
            have l0 := b0.out.lt
            have E := Ext.refl W0
            go_wp2_with (first | (go_at_call 54; refine (within_any _ _ _ _).mono ?_; rintro e w2 ⟨rfl, rfl⟩) | (go_at_call 86; refine (hasOther_any 2 true rfl _).mono ?_; rintro e w2 ⟨rfl, rfl⟩))
            go_ret
            exact ⟨ret_bool hr.out, E0.trans E⟩
          | true =>
            have hr : Hid (true = ruB ⟨2, b, c, d, e⟩) := by show _ = _; rw [ruP_2, a0, a1, a2, a3, a4]; rfl
            have q4 : e = 0 := by simpa using a4
            go_enter Tryz.func51, Tryz.ntmps51
            go_upto_region 1 with (fail)
            generalize hW : World.alloc _ _ = W0
            obtain ⟨E0, z0, b0⟩ := boxes1 hW
            clear hW z0
            replace b0 := hid (show Blk W0 (w.heap.size) [_, _, _, _, _] _ from b0)
            have g0 := b0.out.cells
            have l0 := b0.out.lt
            have E := Ext.refl W0
            go_wp2_with (first | (go_at_call 54; refine (within_any _ _ _ _).mono ?_; rintro e w2 ⟨rfl, rfl⟩) | (go_at_call 86; refine (hasOther_any 2 true rfl _).mono ?_; rintro e w2 ⟨rfl, rfl⟩))
            go_ret
            exact ⟨ret_bool hr.out, E0.trans E⟩

set_option maxRecDepth 100000 in
set_option maxHeartbeats 4000000 in
theorem rRu2 (b c d e : Int) (w : World) :
    Calls Tryz.prog 37 #[.agg #[.int .i64 2, .int .i64 b, .int .i64 c, .int .i64 d, .int .i64 e]] w fun e_ w' => e_ = .returned (.bool (ruB ⟨2, b, c, d, e⟩)) ∧ Ext w w' := by
  have hk : wit 2 0 5 = true := by decide
  cases a0 : wit b 0 7 with
  | false =>
    have hr : Hid (false = ruB ⟨2, b, c, d, e⟩) := by show _ = _; rw [ruR_2, a0]; rfl
    go_enter Tryz.func37, Tryz.ntmps37
    go_upto_region 1 with (fail)
    generalize hW : World.alloc _ _ = W0
    obtain ⟨E0, z0, b0⟩ := boxes1 hW
    clear hW z0
    replace b0 := hid (show Blk W0 (w.heap.size) [_, _, _, _, _] _ from b0)
    have g0 := b0.out.cells
    have l0 := b0.out.lt
    have E := Ext.refl W0
    go_wp2_with (first | (go_at_call 40; refine (l16In_any _ _ _ _).mono ?_; rintro e w2 ⟨rfl, rfl⟩) | (go_at_call 72; refine (l16Paired_any 2 true rfl _).mono ?_; rintro e w2 ⟨rfl, rfl⟩) | (go_at_call 71; refine (rVal2 _ _ _ _ _).mono ?_; rintro e w7 ⟨rfl, E7⟩; replace E := E.trans E7; clear g0 l0 E7; have g0 := (b0.out.ext E).cells; have l0 := (b0.out.ext E).lt))
    go_ret
    exact ⟨ret_bool hr.out, E0.trans E⟩
  | true =>
    cases a1 : wit d 1 8 with
    | false =>
      have hr : Hid (false = ruB ⟨2, b, c, d, e⟩) := by show _ = _; rw [ruR_2, a0, a1]; rfl
      go_enter Tryz.func37, Tryz.ntmps37
      go_upto_region 1 with (fail)
      generalize hW : World.alloc _ _ = W0
      obtain ⟨E0, z0, b0⟩ := boxes1 hW
      clear hW z0
      replace b0 := hid (show Blk W0 (w.heap.size) [_, _, _, _, _] _ from b0)
      have g0 := b0.out.cells
      have l0 := b0.out.lt
      have E := Ext.refl W0
      go_wp2_with (first | (go_at_call 40; refine (l16In_any _ _ _ _).mono ?_; rintro e w2 ⟨rfl, rfl⟩) | (go_at_call 72; refine (l16Paired_any 2 true rfl _).mono ?_; rintro e w2 ⟨rfl, rfl⟩) | (go_at_call 71; refine (rVal2 _ _ _ _ _).mono ?_; rintro e w7 ⟨rfl, E7⟩; replace E := E.trans E7; clear g0 l0 E7; have g0 := (b0.out.ext E).cells; have l0 := (b0.out.ext E).lt))
      go_ret
      exact ⟨ret_bool hr.out, E0.trans E⟩
    | true =>
      cases a2 : wit c 0 7 with
      | false =>
        have hr : Hid (false = ruB ⟨2, b, c, d, e⟩) := by show _ = _; rw [ruR_2, a0, a1, a2]; rfl
        go_enter Tryz.func37, Tryz.ntmps37
        go_upto_region 1 with (fail)
        generalize hW : World.alloc _ _ = W0
        obtain ⟨E0, z0, b0⟩ := boxes1 hW
        clear hW z0
        replace b0 := hid (show Blk W0 (w.heap.size) [_, _, _, _, _] _ from b0)
        have g0 := b0.out.cells
        have l0 := b0.out.lt
        have E := Ext.refl W0
        go_wp2_with (first | (go_at_call 40; refine (l16In_any _ _ _ _).mono ?_; rintro e w2 ⟨rfl, rfl⟩) | (go_at_call 72; refine (l16Paired_any 2 true rfl _).mono ?_; rintro e w2 ⟨rfl, rfl⟩) | (go_at_call 71; refine (rVal2 _ _ _ _ _).mono ?_; rintro e w7 ⟨rfl, E7⟩; replace E := E.trans E7; clear g0 l0 E7; have g0 := (b0.out.ext E).cells; have l0 := (b0.out.ext E).lt))
        go_ret
        exact ⟨ret_bool hr.out, E0.trans E⟩
      | true =>
        cases a3 : !(c == b) with
        | false =>
          have hr : Hid (false = ruB ⟨2, b, c, d, e⟩) := by show _ = _; rw [ruR_2, a0, a1, a2, a3]; rfl
          have q3 : c = b := by simpa using a3
          go_enter Tryz.func37, Tryz.ntmps37
          go_upto_region 1 with (fail)
          generalize hW : World.alloc _ _ = W0
          obtain ⟨E0, z0, b0⟩ := boxes1 hW
          clear hW z0
          replace b0 := hid (show Blk W0 (w.heap.size) [_, _, _, _, _] _ from b0)
          have g0 := b0.out.cells
          have l0 := b0.out.lt
          have E := Ext.refl W0
          go_wp2_with (first | (go_at_call 40; refine (l16In_any _ _ _ _).mono ?_; rintro e w2 ⟨rfl, rfl⟩) | (go_at_call 72; refine (l16Paired_any 2 true rfl _).mono ?_; rintro e w2 ⟨rfl, rfl⟩) | (go_at_call 71; refine (rVal2 _ _ _ _ _).mono ?_; rintro e w7 ⟨rfl, E7⟩; replace E := E.trans E7; clear g0 l0 E7; have g0 := (b0.out.ext E).cells; have l0 := (b0.out.ext E).lt))
          go_ret
          exact ⟨ret_bool hr.out, E0.trans E⟩
        | true =>
          have q3 : ¬ c = b := by simpa using a3
          cases a4 : (e == 0) with
          | false =>
            have hr : Hid (false = ruB ⟨2, b, c, d, e⟩) := by show _ = _; rw [ruR_2, a0, a1, a2, a3, a4]; rfl
            have q4 : ¬ e = 0 := by simpa using a4
            go_enter Tryz.func37, Tryz.ntmps37
            go_upto_region 1 with (fail)
            generalize hW : World.alloc _ _ = W0
            obtain ⟨E0, z0, b0⟩ := boxes1 hW
            clear hW z0
            replace b0 := hid (show Blk W0 (w.heap.size) [_, _, _, _, _] _ from b0)
            have g0 := b0.out.cells
            have l0 := b0.out.lt
            have E := Ext.refl W0
            go_wp2_with (first | (go_at_call 40; refine (l16In_any _ _ _ _).mono ?_; rintro e w2 ⟨rfl, rfl⟩) | (go_at_call 72; refine (l16Paired_any 2 true rfl _).mono ?_; rintro e w2 ⟨rfl, rfl⟩) | (go_at_call 71; refine (rVal2 _ _ _ _ _).mono ?_; rintro e w7 ⟨rfl, E7⟩; replace E := E.trans E7; clear g0 l0 E7; have g0 := (b0.out.ext E).cells; have l0 := (b0.out.ext E).lt))
            go_ret
            exact ⟨ret_bool hr.out, E0.trans E⟩
          | true =>
            have hr : Hid (true = ruB ⟨2, b, c, d, e⟩) := by show _ = _; rw [ruR_2, a0, a1, a2, a3, a4]; rfl
            have q4 : e = 0 := by simpa using a4
            go_enter Tryz.func37, Tryz.ntmps37
            go_upto_region 1 with (fail)
            generalize hW : World.alloc _ _ = W0
            obtain ⟨E0, z0, b0⟩ := boxes1 hW
            clear hW z0
            replace b0 := hid (show Blk W0 (w.heap.size) [_, _, _, _, _] _ from b0)
            have g0 := b0.out.cells
            have l0 := b0.out.lt
            have E := Ext.refl W0
            go_wp2_with (first | (go_at_call 40; refine (l16In_any _ _ _ _).mono ?_; rintro e w2 ⟨rfl, rfl⟩) | (go_at_call 72; refine (l16Paired_any 2 true rfl _).mono ?_; rintro e w2 ⟨rfl, rfl⟩) | (go_at_call 71; refine (rVal2 _ _ _ _ _).mono ?_; rintro e w7 ⟨rfl, E7⟩; replace E := E.trans E7; clear g0 l0 E7; have g0 := (b0.out.ext E).cells; have l0 := (b0.out.ext E).lt))
            go_ret
            exact ⟨ret_bool hr.out, E0.trans E⟩

set_option maxRecDepth 100000 in
set_option maxHeartbeats 4000000 in
theorem pRu3 (b c d e : Int) (w : World) :
    Calls Tryz.prog 51 #[.agg #[.int .i64 3, .int .i64 b, .int .i64 c, .int .i64 d, .int .i64 e]] w fun e_ w' => e_ = .returned (.bool (ruB ⟨3, b, c, d, e⟩)) ∧ Ext w w' := by
  have hk : wit 3 0 5 = true := by decide
  cases a0 : wit b 0 7 with
  | false =>
    have hr : Hid (false = ruB ⟨3, b, c, d, e⟩) := by show _ = _; rw [ruP_3, a0]; rfl
    go_enter Tryz.func51, Tryz.ntmps51
    go_upto_region 1 with (fail)
    generalize hW : World.alloc _ _ = W0
    obtain ⟨E0, z0, b0⟩ := boxes1 hW
    clear hW z0
    replace b0 := hid (show Blk W0 (w.heap.size) [_, _, _, _, _] _ from b0)
    have g0 := b0.out.cells
    have l0 := b0.out.lt
    have E := Ext.refl W0
    go_wp2_with (first | (go_at_call 54; refine (within_any _ _ _ _).mono ?_; rintro e w2 ⟨rfl, rfl⟩) | (go_at_call 86; refine (hasOther_any 3 true rfl _).mono ?_; rintro e w2 ⟨rfl, rfl⟩))
    go_ret
    exact ⟨ret_bool hr.out, E0.trans E⟩
  | true =>
    cases a1 : wit c 0 7 with
    | false =>
      have hr : Hid (false = ruB ⟨3, b, c, d, e⟩) := by show _ = _; rw [ruP_3, a0, a1]; rfl
      go_enter Tryz.func51, Tryz.ntmps51
      go_upto_region 1 with (fail)
      generalize hW : World.alloc _ _ = W0
      obtain ⟨E0, z0, b0⟩ := boxes1 hW
      clear hW z0
      replace b0 := hid (show Blk W0 (w.heap.size) [_, _, _, _, _] _ from b0)
      have g0 := b0.out.cells
      have l0 := b0.out.lt
      have E := Ext.refl W0
      go_wp2_with (first | (go_at_call 54; refine (within_any _ _ _ _).mono ?_; rintro e w2 ⟨rfl, rfl⟩) | (go_at_call 86; refine (hasOther_any 3 true rfl _).mono ?_; rintro e w2 ⟨rfl, rfl⟩))
      go_ret
      exact ⟨ret_bool hr.out, E0.trans E⟩
    | true =>
      cases a2 : !(c == b) with
      | false =>
        have hr : Hid (false = ruB ⟨3, b, c, d, e⟩) := by show _ = _; rw [ruP_3, a0, a1, a2]; rfl
        have q2 : c = b := by simpa using a2
        go_enter Tryz.func51, Tryz.ntmps51
        go_upto_region 1 with (fail)
        generalize hW : World.alloc _ _ = W0
        obtain ⟨E0, z0, b0⟩ := boxes1 hW
        clear hW z0
        replace b0 := hid (show Blk W0 (w.heap.size) [_, _, _, _, _] _ from b0)
        have g0 := b0.out.cells
        have l0 := b0.out.lt
        have E := Ext.refl W0
        go_wp2_with (first | (go_at_call 54; refine (within_any _ _ _ _).mono ?_; rintro e w2 ⟨rfl, rfl⟩) | (go_at_call 86; refine (hasOther_any 3 true rfl _).mono ?_; rintro e w2 ⟨rfl, rfl⟩))
        go_ret
        exact ⟨ret_bool hr.out, E0.trans E⟩
      | true =>
        have q2 : ¬ c = b := by simpa using a2
        cases a3 : wit d 1 8 with
        | false =>
          have hr : Hid (false = ruB ⟨3, b, c, d, e⟩) := by show _ = _; rw [ruP_3, a0, a1, a2, a3]; rfl
          go_enter Tryz.func51, Tryz.ntmps51
          go_upto_region 1 with (fail)
          generalize hW : World.alloc _ _ = W0
          obtain ⟨E0, z0, b0⟩ := boxes1 hW
          clear hW z0
          replace b0 := hid (show Blk W0 (w.heap.size) [_, _, _, _, _] _ from b0)
          have g0 := b0.out.cells
          have l0 := b0.out.lt
          have E := Ext.refl W0
          go_wp2_with (first | (go_at_call 54; refine (within_any _ _ _ _).mono ?_; rintro e w2 ⟨rfl, rfl⟩) | (go_at_call 86; refine (hasOther_any 3 true rfl _).mono ?_; rintro e w2 ⟨rfl, rfl⟩))
          go_ret
          exact ⟨ret_bool hr.out, E0.trans E⟩
        | true =>
          cases a4 : (e == 0) with
          | false =>
            have hr : Hid (false = ruB ⟨3, b, c, d, e⟩) := by show _ = _; rw [ruP_3, a0, a1, a2, a3, a4]; rfl
            have q4 : ¬ e = 0 := by simpa using a4
            go_enter Tryz.func51, Tryz.ntmps51
            go_upto_region 1 with (fail)
            generalize hW : World.alloc _ _ = W0
            obtain ⟨E0, z0, b0⟩ := boxes1 hW
            clear hW z0
            replace b0 := hid (show Blk W0 (w.heap.size) [_, _, _, _, _] _ from b0)
            have g0 := b0.out.cells
            have l0 := b0.out.lt
            have E := Ext.refl W0
            go_wp2_with (first | (go_at_call 54; refine (within_any _ _ _ _).mono ?_; rintro e w2 ⟨rfl, rfl⟩) | (go_at_call 86; refine (hasOther_any 3 true rfl _).mono ?_; rintro e w2 ⟨rfl, rfl⟩))
            go_ret
            exact ⟨ret_bool hr.out, E0.trans E⟩
          | true =>
            have hr : Hid (true = ruB ⟨3, b, c, d, e⟩) := by show _ = _; rw [ruP_3, a0, a1, a2, a3, a4]; rfl
            have q4 : e = 0 := by simpa using a4
            go_enter Tryz.func51, Tryz.ntmps51
            go_upto_region 1 with (fail)
            generalize hW : World.alloc _ _ = W0
            obtain ⟨E0, z0, b0⟩ := boxes1 hW
            clear hW z0
            replace b0 := hid (show Blk W0 (w.heap.size) [_, _, _, _, _] _ from b0)
            have g0 := b0.out.cells
            have l0 := b0.out.lt
            have E := Ext.refl W0
            go_wp2_with (first | (go_at_call 54; refine (within_any _ _ _ _).mono ?_; rintro e w2 ⟨rfl, rfl⟩) | (go_at_call 86; refine (hasOther_any 3 true rfl _).mono ?_; rintro e w2 ⟨rfl, rfl⟩))
            go_ret
            exact ⟨ret_bool hr.out, E0.trans E⟩

set_option maxRecDepth 100000 in
set_option maxHeartbeats 4000000 in
theorem rRu3 (b c d e : Int) (w : World) :
    Calls Tryz.prog 37 #[.agg #[.int .i64 3, .int .i64 b, .int .i64 c, .int .i64 d, .int .i64 e]] w fun e_ w' => e_ = .returned (.bool (ruB ⟨3, b, c, d, e⟩)) ∧ Ext w w' := by
  have hk : wit 3 0 5 = true := by decide
  cases a0 : wit b 0 7 with
  | false =>
    have hr : Hid (false = ruB ⟨3, b, c, d, e⟩) := by show _ = _; rw [ruR_3, a0]; rfl
    go_enter Tryz.func37, Tryz.ntmps37
    go_upto_region 1 with (fail)
    generalize hW : World.alloc _ _ = W0
    obtain ⟨E0, z0, b0⟩ := boxes1 hW
    clear hW z0
    replace b0 := hid (show Blk W0 (w.heap.size) [_, _, _, _, _] _ from b0)
    have g0 := b0.out.cells
    have l0 := b0.out.lt
    have E := Ext.refl W0
    go_wp2_with (first | (go_at_call 40; refine (l16In_any _ _ _ _).mono ?_; rintro e w2 ⟨rfl, rfl⟩) | (go_at_call 72; refine (l16Paired_any 3 true rfl _).mono ?_; rintro e w2 ⟨rfl, rfl⟩) | (go_at_call 71; refine (rVal3 _ _ _ _ _).mono ?_; rintro e w7 ⟨rfl, E7⟩; replace E := E.trans E7; clear g0 l0 E7; have g0 := (b0.out.ext E).cells; have l0 := (b0.out.ext E).lt))
    go_ret
    exact ⟨ret_bool hr.out, E0.trans E⟩
  | true =>
    cases a1 : wit d 1 8 with
    | false =>
      have hr : Hid (false = ruB ⟨3, b, c, d, e⟩) := by show _ = _; rw [ruR_3, a0, a1]; rfl
      go_enter Tryz.func37, Tryz.ntmps37
      go_upto_region 1 with (fail)
      generalize hW : World.alloc _ _ = W0
      obtain ⟨E0, z0, b0⟩ := boxes1 hW
      clear hW z0
      replace b0 := hid (show Blk W0 (w.heap.size) [_, _, _, _, _] _ from b0)
      have g0 := b0.out.cells
      have l0 := b0.out.lt
      have E := Ext.refl W0
      go_wp2_with (first | (go_at_call 40; refine (l16In_any _ _ _ _).mono ?_; rintro e w2 ⟨rfl, rfl⟩) | (go_at_call 72; refine (l16Paired_any 3 true rfl _).mono ?_; rintro e w2 ⟨rfl, rfl⟩) | (go_at_call 71; refine (rVal3 _ _ _ _ _).mono ?_; rintro e w7 ⟨rfl, E7⟩; replace E := E.trans E7; clear g0 l0 E7; have g0 := (b0.out.ext E).cells; have l0 := (b0.out.ext E).lt))
      go_ret
      exact ⟨ret_bool hr.out, E0.trans E⟩
    | true =>
      cases a2 : wit c 0 7 with
      | false =>
        have hr : Hid (false = ruB ⟨3, b, c, d, e⟩) := by show _ = _; rw [ruR_3, a0, a1, a2]; rfl
        go_enter Tryz.func37, Tryz.ntmps37
        go_upto_region 1 with (fail)
        generalize hW : World.alloc _ _ = W0
        obtain ⟨E0, z0, b0⟩ := boxes1 hW
        clear hW z0
        replace b0 := hid (show Blk W0 (w.heap.size) [_, _, _, _, _] _ from b0)
        have g0 := b0.out.cells
        have l0 := b0.out.lt
        have E := Ext.refl W0
        go_wp2_with (first | (go_at_call 40; refine (l16In_any _ _ _ _).mono ?_; rintro e w2 ⟨rfl, rfl⟩) | (go_at_call 72; refine (l16Paired_any 3 true rfl _).mono ?_; rintro e w2 ⟨rfl, rfl⟩) | (go_at_call 71; refine (rVal3 _ _ _ _ _).mono ?_; rintro e w7 ⟨rfl, E7⟩; replace E := E.trans E7; clear g0 l0 E7; have g0 := (b0.out.ext E).cells; have l0 := (b0.out.ext E).lt))
        go_ret
        exact ⟨ret_bool hr.out, E0.trans E⟩
      | true =>
        cases a3 : !(c == b) with
        | false =>
          have hr : Hid (false = ruB ⟨3, b, c, d, e⟩) := by show _ = _; rw [ruR_3, a0, a1, a2, a3]; rfl
          have q3 : c = b := by simpa using a3
          go_enter Tryz.func37, Tryz.ntmps37
          go_upto_region 1 with (fail)
          generalize hW : World.alloc _ _ = W0
          obtain ⟨E0, z0, b0⟩ := boxes1 hW
          clear hW z0
          replace b0 := hid (show Blk W0 (w.heap.size) [_, _, _, _, _] _ from b0)
          have g0 := b0.out.cells
          have l0 := b0.out.lt
          have E := Ext.refl W0
          go_wp2_with (first | (go_at_call 40; refine (l16In_any _ _ _ _).mono ?_; rintro e w2 ⟨rfl, rfl⟩) | (go_at_call 72; refine (l16Paired_any 3 true rfl _).mono ?_; rintro e w2 ⟨rfl, rfl⟩) | (go_at_call 71; refine (rVal3 _ _ _ _ _).mono ?_; rintro e w7 ⟨rfl, E7⟩; replace E := E.trans E7; clear g0 l0 E7; have g0 := (b0.out.ext E).cells; have l0 := (b0.out.ext E).lt))
          go_ret
          exact ⟨ret_bool hr.out, E0.trans E⟩
        | true =>
          have q3 : ¬ c = b := by simpa using a3
          cases a4 : (e == 0) with
          | false =>
            have hr : Hid (false = ruB ⟨3, b, c, d, e⟩) := by show _ = _; rw [ruR_3, a0, a1, a2, a3, a4]; rfl
            have q4 : ¬ e = 0 := by simpa using a4
            go_enter Tryz.func37, Tryz.ntmps37
            go_upto_region 1 with (fail)
            generalize hW : World.alloc _ _ = W0
            obtain ⟨E0, z0, b0⟩ := boxes1 hW
            clear hW z0
            replace b0 := hid (show Blk W0 (w.heap.size) [_, _, _, _, _] _ from b0)
            have g0 := b0.out.cells
            have l0 := b0.out.lt
            have E := Ext.refl W0
            go_wp2_with (first | (go_at_call 40; refine (l16In_any _ _ _ _).mono ?_; rintro e w2 ⟨rfl, rfl⟩) | (go_at_call 72; refine (l16Paired_any 3 true rfl _).mono ?_; rintro e w2 ⟨rfl, rfl⟩) | (go_at_call 71; refine (rVal3 _ _ _ _ _).mono ?_; rintro e w7 ⟨rfl, E7⟩; replace E := E.trans E7; clear g0 l0 E7; have g0 := (b0.out.ext E).cells; have l0 := (b0.out.ext E).lt))
            go_ret
            exact ⟨ret_bool hr.out, E0.trans E⟩
          | true =>
            have hr : Hid (true = ruB ⟨3, b, c, d, e⟩) := by show _ = _; rw [ruR_3, a0, a1, a2, a3, a4]; rfl
            have q4 : e = 0 := by simpa using a4
            go_enter Tryz.func37, Tryz.ntmps37
            go_upto_region 1 with (fail)
            generalize hW : World.alloc _ _ = W0
            obtain ⟨E0, z0, b0⟩ := boxes1 hW
            clear hW z0
            replace b0 := hid (show Blk W0 (w.heap.size) [_, _, _, _, _] _ from b0)
            have g0 := b0.out.cells
            have l0 := b0.out.lt
            have E := Ext.refl W0
            go_wp2_with (first | (go_at_call 40; refine (l16In_any _ _ _ _).mono ?_; rintro e w2 ⟨rfl, rfl⟩) | (go_at_call 72; refine (l16Paired_any 3 true rfl _).mono ?_; rintro e w2 ⟨rfl, rfl⟩) | (go_at_call 71; refine (rVal3 _ _ _ _ _).mono ?_; rintro e w7 ⟨rfl, E7⟩; replace E := E.trans E7; clear g0 l0 E7; have g0 := (b0.out.ext E).cells; have l0 := (b0.out.ext E).lt))
            go_ret
            exact ⟨ret_bool hr.out, E0.trans E⟩

set_option maxRecDepth 100000 in
set_option maxHeartbeats 4000000 in
theorem pRu4 (b c d e : Int) (w : World) :
    Calls Tryz.prog 51 #[.agg #[.int .i64 4, .int .i64 b, .int .i64 c, .int .i64 d, .int .i64 e]] w fun e_ w' => e_ = .returned (.bool (ruB ⟨4, b, c, d, e⟩)) ∧ Ext w w' := by
  have hk : wit 4 0 5 = true := by decide
  cases a0 : wit b 0 7 with
  | false =>
    have hr : Hid (false = ruB ⟨4, b, c, d, e⟩) := by show _ = _; rw [ruP_4, a0]; rfl
    go_enter Tryz.func51, Tryz.ntmps51
    go_upto_region 1 with (fail)
    generalize hW : World.alloc _ _ = W0
    obtain ⟨E0, z0, b0⟩ := boxes1 hW
    clear hW z0
    replace b0 := hid (show Blk W0 (w.heap.size) [_, _, _, _, _] _ from b0)
    have g0 := b0.out.cells
    have l0 := b0.out.lt
    have E := Ext.refl W0
    go_wp2_with (first | (go_at_call 54; refine (within_any _ _ _ _).mono ?_; rintro e w2 ⟨rfl, rfl⟩) | (go_at_call 86; refine (hasOther_any 4 false rfl _).mono ?_; rintro e w2 ⟨rfl, rfl⟩))
    go_ret
    exact ⟨ret_bool hr.out, E0.trans E⟩
  | true =>
    cases a1 : (c == 0) with
    | false =>
      have hr : Hid (false = ruB ⟨4, b, c, d, e⟩) := by show _ = _; rw [ruP_4, a0, a1]; rfl
      have q1 : ¬ c = 0 := by simpa using a1
      go_enter Tryz.func51, Tryz.ntmps51
      go_upto_region 1 with (fail)
      generalize hW : World.alloc _ _ = W0
      obtain ⟨E0, z0, b0⟩ := boxes1 hW
      clear hW z0
      replace b0 := hid (show Blk W0 (w.heap.size) [_, _, _, _, _] _ from b0)
      have g0 := b0.out.cells
      have l0 := b0.out.lt
      have E := Ext.refl W0
      go_wp2_with (first | (go_at_call 54; refine (within_any _ _ _ _).mono ?_; rintro e w2 ⟨rfl, rfl⟩) | (go_at_call 86; refine (hasOther_any 4 false rfl _).mono ?_; rintro e w2 ⟨rfl, rfl⟩))
      go_ret
      exact ⟨ret_bool hr.out, E0.trans E⟩
    | true =>
      have q1 : c = 0 := by simpa using a1
      cases a2 : wit d 1 6400 with
      | false =>
        have hr : Hid (false = ruB ⟨4, b, c, d, e⟩) := by show _ = _; rw [ruP_4, a0, a1, a2]; rfl
        go_enter Tryz.func51, Tryz.ntmps51
        go_upto_region 1 with (fail)
        generalize hW : World.alloc _ _ = W0
        obtain ⟨E0, z0, b0⟩ := boxes1 hW
        clear hW z0
        replace b0 := hid (show Blk W0 (w.heap.size) [_, _, _, _, _] _ from b0)
        have g0 := b0.out.cells
        have l0 := b0.out.lt
        have E := Ext.refl W0
        go_wp2_with (first | (go_at_call 54; refine (within_any _ _ _ _).mono ?_; rintro e w2 ⟨rfl, rfl⟩) | (go_at_call 86; refine (hasOther_any 4 false rfl _).mono ?_; rintro e w2 ⟨rfl, rfl⟩))
        go_ret
        exact ⟨ret_bool hr.out, E0.trans E⟩
      | true =>
        cases a3 : (e == 0) with
        | false =>
          have hr : Hid (false = ruB ⟨4, b, c, d, e⟩) := by show _ = _; rw [ruP_4, a0, a1, a2, a3]; rfl
          have q3 : ¬ e = 0 := by simpa using a3
          go_enter Tryz.func51, Tryz.ntmps51
          go_upto_region 1 with (fail)
          generalize hW : World.alloc _ _ = W0
          obtain ⟨E0, z0, b0⟩ := boxes1 hW
          clear hW z0
          replace b0 := hid (show Blk W0 (w.heap.size) [_, _, _, _, _] _ from b0)
          have g0 := b0.out.cells
          have l0 := b0.out.lt
          have E := Ext.refl W0
          go_wp2_with (first | (go_at_call 54; refine (within_any _ _ _ _).mono ?_; rintro e w2 ⟨rfl, rfl⟩) | (go_at_call 86; refine (hasOther_any 4 false rfl _).mono ?_; rintro e w2 ⟨rfl, rfl⟩))
          go_ret
          exact ⟨ret_bool hr.out, E0.trans E⟩
        | true =>
          have hr : Hid (true = ruB ⟨4, b, c, d, e⟩) := by show _ = _; rw [ruP_4, a0, a1, a2, a3]; rfl
          have q3 : e = 0 := by simpa using a3
          go_enter Tryz.func51, Tryz.ntmps51
          go_upto_region 1 with (fail)
          generalize hW : World.alloc _ _ = W0
          obtain ⟨E0, z0, b0⟩ := boxes1 hW
          clear hW z0
          replace b0 := hid (show Blk W0 (w.heap.size) [_, _, _, _, _] _ from b0)
          have g0 := b0.out.cells
          have l0 := b0.out.lt
          have E := Ext.refl W0
          go_wp2_with (first | (go_at_call 54; refine (within_any _ _ _ _).mono ?_; rintro e w2 ⟨rfl, rfl⟩) | (go_at_call 86; refine (hasOther_any 4 false rfl _).mono ?_; rintro e w2 ⟨rfl, rfl⟩))
          go_ret
          exact ⟨ret_bool hr.out, E0.trans E⟩

set_option maxRecDepth 100000 in
set_option maxHeartbeats 4000000 in
theorem rRu4 (b c d e : Int) (w : World) :
    Calls Tryz.prog 37 #[.agg #[.int .i64 4, .int .i64 b, .int .i64 c, .int .i64 d, .int .i64 e]] w fun e_ w' => e_ = .returned (.bool (ruB ⟨4, b, c, d, e⟩)) ∧ Ext w w' := by
  have hk : wit 4 0 5 = true := by decide
  cases a0 : wit b 0 7 with
  | false =>
    have hr : Hid (false = ruB ⟨4, b, c, d, e⟩) := by show _ = _; rw [ruR_4, a0]; rfl
    go_enter Tryz.func37, Tryz.ntmps37
    go_upto_region 1 with (fail)
    generalize hW : World.alloc _ _ = W0
    obtain ⟨E0, z0, b0⟩ := boxes1 hW
    clear hW z0
    replace b0 := hid (show Blk W0 (w.heap.size) [_, _, _, _, _] _ from b0)
    have g0 := b0.out.cells
    have l0 := b0.out.lt
    have E := Ext.refl W0
    go_wp2_with (first | (go_at_call 40; refine (l16In_any _ _ _ _).mono ?_; rintro e w2 ⟨rfl, rfl⟩) | (go_at_call 72; refine (l16Paired_any 4 false rfl _).mono ?_; rintro e w2 ⟨rfl, rfl⟩) | (go_at_call 71; refine (rVal4 _ _ _ _ _).mono ?_; rintro e w7 ⟨rfl, E7⟩; replace E := E.trans E7; clear g0 l0 E7; have g0 := (b0.out.ext E).cells; have l0 := (b0.out.ext E).lt))
    go_ret
    exact ⟨ret_bool hr.out, E0.trans E⟩
  | true =>
    cases a1 : wit d 1 6400 with
    | false =>
      have hr : Hid (false = ruB ⟨4, b, c, d, e⟩) := by show _ = _; rw [ruR_4, a0, a1]; rfl
      go_enter Tryz.func37, Tryz.ntmps37
      go_upto_region 1 with (fail)
      generalize hW : World.alloc _ _ = W0
      obtain ⟨E0, z0, b0⟩ := boxes1 hW
      clear hW z0
      replace b0 := hid (show Blk W0 (w.heap.size) [_, _, _, _, _] _ from b0)
      have g0 := b0.out.cells
      have l0 := b0.out.lt
      have E := Ext.refl W0
      go_wp2_with (first | (go_at_call 40; refine (l16In_any _ _ _ _).mono ?_; rintro e w2 ⟨rfl, rfl⟩) | (go_at_call 72; refine (l16Paired_any 4 false rfl _).mono ?_; rintro e w2 ⟨rfl, rfl⟩) | (go_at_call 71; refine (rVal4 _ _ _ _ _).mono ?_; rintro e w7 ⟨rfl, E7⟩; replace E := E.trans E7; clear g0 l0 E7; have g0 := (b0.out.ext E).cells; have l0 := (b0.out.ext E).lt))
      go_ret
      exact ⟨ret_bool hr.out, E0.trans E⟩
    | true =>
      cases a2 : (c == 0) with
      | false =>
        have hr : Hid (false = ruB ⟨4, b, c, d, e⟩) := by show _ = _; rw [ruR_4, a0, a1, a2]; rfl
        have q2 : ¬ c = 0 := by simpa using a2
        go_enter Tryz.func37, Tryz.ntmps37
        go_upto_region 1 with (fail)
        generalize hW : World.alloc _ _ = W0
        obtain ⟨E0, z0, b0⟩ := boxes1 hW
        clear hW z0
        replace b0 := hid (show Blk W0 (w.heap.size) [_, _, _, _, _] _ from b0)
        have g0 := b0.out.cells
        have l0 := b0.out.lt
        have E := Ext.refl W0
        go_wp2_with (first | (go_at_call 40; refine (l16In_any _ _ _ _).mono ?_; rintro e w2 ⟨rfl, rfl⟩) | (go_at_call 72; refine (l16Paired_any 4 false rfl _).mono ?_; rintro e w2 ⟨rfl, rfl⟩) | (go_at_call 71; refine (rVal4 _ _ _ _ _).mono ?_; rintro e w7 ⟨rfl, E7⟩; replace E := E.trans E7; clear g0 l0 E7; have g0 := (b0.out.ext E).cells; have l0 := (b0.out.ext E).lt))
        go_ret
        exact ⟨ret_bool hr.out, E0.trans E⟩
      | true =>
        have q2 : c = 0 := by simpa using a2
        cases a3 : (e == 0) with
        | false =>
          have hr : Hid (false = ruB ⟨4, b, c, d, e⟩) := by show _ = _; rw [ruR_4, a0, a1, a2, a3]; rfl
          have q3 : ¬ e = 0 := by simpa using a3
          go_enter Tryz.func37, Tryz.ntmps37
          go_upto_region 1 with (fail)
          generalize hW : World.alloc _ _ = W0
          obtain ⟨E0, z0, b0⟩ := boxes1 hW
          clear hW z0
          replace b0 := hid (show Blk W0 (w.heap.size) [_, _, _, _, _] _ from b0)
          have g0 := b0.out.cells
          have l0 := b0.out.lt
          have E := Ext.refl W0
          go_wp2_with (first | (go_at_call 40; refine (l16In_any _ _ _ _).mono ?_; rintro e w2 ⟨rfl, rfl⟩) | (go_at_call 72; refine (l16Paired_any 4 false rfl _).mono ?_; rintro e w2 ⟨rfl, rfl⟩) | (go_at_call 71; refine (rVal4 _ _ _ _ _).mono ?_; rintro e w7 ⟨rfl, E7⟩; replace E := E.trans E7; clear g0 l0 E7; have g0 := (b0.out.ext E).cells; have l0 := (b0.out.ext E).lt))
          go_ret
          exact ⟨ret_bool hr.out, E0.trans E⟩
        | true =>
          have hr : Hid (true = ruB ⟨4, b, c, d, e⟩) := by show _ = _; rw [ruR_4, a0, a1, a2, a3]; rfl
          have q3 : e = 0 := by simpa using a3
          go_enter Tryz.func37, Tryz.ntmps37
          go_upto_region 1 with (fail)
          generalize hW : World.alloc _ _ = W0
          obtain ⟨E0, z0, b0⟩ := boxes1 hW
          clear hW z0
          replace b0 := hid (show Blk W0 (w.heap.size) [_, _, _, _, _] _ from b0)
          have g0 := b0.out.cells
          have l0 := b0.out.lt
          have E := Ext.refl W0
          go_wp2_with (first | (go_at_call 40; refine (l16In_any _ _ _ _).mono ?_; rintro e w2 ⟨rfl, rfl⟩) | (go_at_call 72; refine (l16Paired_any 4 false rfl _).mono ?_; rintro e w2 ⟨rfl, rfl⟩) | (go_at_call 71; refine (rVal4 _ _ _ _ _).mono ?_; rintro e w7 ⟨rfl, E7⟩; replace E := E.trans E7; clear g0 l0 E7; have g0 := (b0.out.ext E).cells; have l0 := (b0.out.ext E).lt))
          go_ret
          exact ⟨ret_bool hr.out, E0.trans E⟩

set_option maxRecDepth 100000 in
set_option maxHeartbeats 4000000 in
theorem pRu5 (b c d e : Int) (w : World) :
    Calls Tryz.prog 51 #[.agg #[.int .i64 5, .int .i64 b, .int .i64 c, .int .i64 d, .int .i64 e]] w fun e_ w' => e_ = .returned (.bool (ruB ⟨5, b, c, d, e⟩)) ∧ Ext w w' := by
  have hk : wit 5 0 5 = true := by decide
  cases a0 : wit b 0 7 with
  | false =>
    have hr : Hid (false = ruB ⟨5, b, c, d, e⟩) := by show _ = _; rw [ruP_5, a0]; rfl
    go_enter Tryz.func51, Tryz.ntmps51
    go_upto_region 1 with (fail)
    generalize hW : World.alloc _ _ = W0
    obtain ⟨E0, z0, b0⟩ := boxes1 hW
    clear hW z0
    replace b0 := hid (show Blk W0 (w.heap.size) [_, _, _, _, _] _ from b0)
    have g0 := b0.out.cells
    have l0 := b0.out.lt
    have E := Ext.refl W0
    go_wp2_with (first | (go_at_call 54; refine (within_any _ _ _ _).mono ?_; rintro e w2 ⟨rfl, rfl⟩) | (go_at_call 86; refine (hasOther_any 5 false rfl _).mono ?_; rintro e w2 ⟨rfl, rfl⟩))
    go_ret
    exact ⟨ret_bool hr.out, E0.trans E⟩
  | true =>
    cases a1 : (c == 0) with
    | false =>
      have hr : Hid (false = ruB ⟨5, b, c, d, e⟩) := by show _ = _; rw [ruP_5, a0, a1]; rfl
      have q1 : ¬ c = 0 := by simpa using a1
      go_enter Tryz.func51, Tryz.ntmps51
      go_upto_region 1 with (fail)
      generalize hW : World.alloc _ _ = W0
      obtain ⟨E0, z0, b0⟩ := boxes1 hW
      clear hW z0
      replace b0 := hid (show Blk W0 (w.heap.size) [_, _, _, _, _] _ from b0)
      have g0 := b0.out.cells
      have l0 := b0.out.lt
      have E := Ext.refl W0
      go_wp2_with (first | (go_at_call 54; refine (within_any _ _ _ _).mono ?_; rintro e w2 ⟨rfl, rfl⟩) | (go_at_call 86; refine (hasOther_any 5 false rfl _).mono ?_; rintro e w2 ⟨rfl, rfl⟩))
      go_ret
      exact ⟨ret_bool hr.out, E0.trans E⟩
    | true =>
      have q1 : c = 0 := by simpa using a1
      cases a2 : wit d 4 40 with
      | false =>
        have hr : Hid (false = ruB ⟨5, b, c, d, e⟩) := by show _ = _; rw [ruP_5, a0, a1, a2]; rfl
        go_enter Tryz.func51, Tryz.ntmps51
        go_upto_region 1 with (fail)
        generalize hW : World.alloc _ _ = W0
        obtain ⟨E0, z0, b0⟩ := boxes1 hW
        clear hW z0
        replace b0 := hid (show Blk W0 (w.heap.size) [_, _, _, _, _] _ from b0)
        have g0 := b0.out.cells
        have l0 := b0.out.lt
        have E := Ext.refl W0
        go_wp2_with (first | (go_at_call 54; refine (within_any _ _ _ _).mono ?_; rintro e w2 ⟨rfl, rfl⟩) | (go_at_call 86; refine (hasOther_any 5 false rfl _).mono ?_; rintro e w2 ⟨rfl, rfl⟩))
        go_ret
        exact ⟨ret_bool hr.out, E0.trans E⟩
      | true =>
        have hr : Hid (wit e 1 100 = ruB ⟨5, b, c, d, e⟩) := by show _ = _; rw [ruP_5, a0, a1, a2]; rfl
        go_enter Tryz.func51, Tryz.ntmps51
        go_upto_region 1 with (fail)
        generalize hW : World.alloc _ _ = W0
        obtain ⟨E0, z0, b0⟩ := boxes1 hW
        clear hW z0
        replace b0 := hid (show Blk W0 (w.heap.size) [_, _, _, _, _] _ from b0)
        have g0 := b0.out.cells
        have l0 := b0.out.lt
        have E := Ext.refl W0
        go_wp2_with (first | (go_at_call 54; refine (within_any _ _ _ _).mono ?_; rintro e w2 ⟨rfl, rfl⟩) | (go_at_call 86; refine (hasOther_any 5 false rfl _).mono ?_; rintro e w2 ⟨rfl, rfl⟩))
        go_ret
        exact ⟨ret_bool hr.out, E0.trans E⟩

set_option maxRecDepth 100000 in
set_option maxHeartbeats 4000000 in
theorem rRu5 (b c d e : Int) (w : World) :
    Calls Tryz.prog 37 #[.agg #[.int .i64 5, .int .i64 b, .int .i64 c, .int .i64 d, .int .i64 e]] w fun e_ w' => e_ = .returned (.bool (ruB ⟨5, b, c, d, e⟩)) ∧ Ext w w' := by
  have hk : wit 5 0 5 = true := by decide
  cases a0 : wit b 0 7 with
  | false =>
    have hr : Hid (false = ruB ⟨5, b, c, d, e⟩) := by show _ = _; rw [ruR_5, a0]; rfl
    go_enter Tryz.func37, Tryz.ntmps37
    go_upto_region 1 with (fail)
    generalize hW : World.alloc _ _ = W0
    obtain ⟨E0, z0, b0⟩ := boxes1 hW
    clear hW z0
    replace b0 := hid (show Blk W0 (w.heap.size) [_, _, _, _, _] _ from b0)
    have g0 := b0.out.cells
    have l0 := b0.out.lt
    have E := Ext.refl W0
    go_wp2_with (first | (go_at_call 40; refine (l16In_any _ _ _ _).mono ?_; rintro e w2 ⟨rfl, rfl⟩) | (go_at_call 72; refine (l16Paired_any 5 false rfl _).mono ?_; rintro e w2 ⟨rfl, rfl⟩) | (go_at_call 71; refine (rVal5 _ _ _ _ _).mono ?_; rintro e w7 ⟨rfl, E7⟩; replace E := E.trans E7; clear g0 l0 E7; have g0 := (b0.out.ext E).cells; have l0 := (b0.out.ext E).lt))
    go_ret
    exact ⟨ret_bool hr.out, E0.trans E⟩
  | true =>
    cases a1 : wit d 4 40 with
    | false =>
      have hr : Hid (false = ruB ⟨5, b, c, d, e⟩) := by show _ = _; rw [ruR_5, a0, a1]; rfl
      go_enter Tryz.func37, Tryz.ntmps37
      go_upto_region 1 with (fail)
      generalize hW : World.alloc _ _ = W0
      obtain ⟨E0, z0, b0⟩ := boxes1 hW
      clear hW z0
      replace b0 := hid (show Blk W0 (w.heap.size) [_, _, _, _, _] _ from b0)
      have g0 := b0.out.cells
      have l0 := b0.out.lt
      have E := Ext.refl W0
      go_wp2_with (first | (go_at_call 40; refine (l16In_any _ _ _ _).mono ?_; rintro e w2 ⟨rfl, rfl⟩) | (go_at_call 72; refine (l16Paired_any 5 false rfl _).mono ?_; rintro e w2 ⟨rfl, rfl⟩) | (go_at_call 71; refine (rVal5 _ _ _ _ _).mono ?_; rintro e w7 ⟨rfl, E7⟩; replace E := E.trans E7; clear g0 l0 E7; have g0 := (b0.out.ext E).cells; have l0 := (b0.out.ext E).lt))
      go_ret
      exact ⟨ret_bool hr.out, E0.trans E⟩
    | true =>
      cases a2 : (c == 0) with
      | false =>
        have hr : Hid (false = ruB ⟨5, b, c, d, e⟩) := by show _ = _; rw [ruR_5, a0, a1, a2]; rfl
        have q2 : ¬ c = 0 := by simpa using a2
        go_enter Tryz.func37, Tryz.ntmps37
        go_upto_region 1 with (fail)
        generalize hW : World.alloc _ _ = W0
        obtain ⟨E0, z0, b0⟩ := boxes1 hW
        clear hW z0
        replace b0 := hid (show Blk W0 (w.heap.size) [_, _, _, _, _] _ from b0)
        have g0 := b0.out.cells
        have l0 := b0.out.lt
        have E := Ext.refl W0
        go_wp2_with (first | (go_at_call 40; refine (l16In_any _ _ _ _).mono ?_; rintro e w2 ⟨rfl, rfl⟩) | (go_at_call 72; refine (l16Paired_any 5 false rfl _).mono ?_; rintro e w2 ⟨rfl, rfl⟩) | (go_at_call 71; refine (rVal5 _ _ _ _ _).mono ?_; rintro e w7 ⟨rfl, E7⟩; replace E := E.trans E7; clear g0 l0 E7; have g0 := (b0.out.ext E).cells; have l0 := (b0.out.ext E).lt))
        go_ret
        exact ⟨ret_bool hr.out, E0.trans E⟩
      | true =>
        have q2 : c = 0 := by simpa using a2
        have hr : Hid (wit e 1 100 = ruB ⟨5, b, c, d, e⟩) := by show _ = _; rw [ruR_5, a0, a1, a2]; rfl
        go_enter Tryz.func37, Tryz.ntmps37
        go_upto_region 1 with (fail)
        generalize hW : World.alloc _ _ = W0
        obtain ⟨E0, z0, b0⟩ := boxes1 hW
        clear hW z0
        replace b0 := hid (show Blk W0 (w.heap.size) [_, _, _, _, _] _ from b0)
        have g0 := b0.out.cells
        have l0 := b0.out.lt
        have E := Ext.refl W0
        go_wp2_with (first | (go_at_call 40; refine (l16In_any _ _ _ _).mono ?_; rintro e w2 ⟨rfl, rfl⟩) | (go_at_call 72; refine (l16Paired_any 5 false rfl _).mono ?_; rintro e w2 ⟨rfl, rfl⟩) | (go_at_call 71; refine (rVal5 _ _ _ _ _).mono ?_; rintro e w7 ⟨rfl, E7⟩; replace E := E.trans E7; clear g0 l0 E7; have g0 := (b0.out.ext E).cells; have l0 := (b0.out.ext E).lt))
        go_ret
        exact ⟨ret_bool hr.out, E0.trans E⟩

theorem ru_out {r : RuD} (h : wit r.a 0 5 = false) : ruB r = false := by unfold ruB; rw [h]; rfl
theorem SlD.take {α : Type} {Q : Rdg α} {sz base : Nat} {w : World} {p : Option Addr} {n k : Nat} {l : List α} (h : SlD Q sz base w p n l) (hk : k ≤ n) : SlD Q sz base w p k (l.take k) := by
  refine ⟨by rw [List.length_take, h.1]; omega, ?_⟩
  rcases h.2 with h0 | ⟨b, off, hp, hb, hs, hc⟩
  · exact Or.inl (by omega)
  · refine Or.inr ⟨b, off, hp, hb, hs, fun i x hx => hc i x ?_⟩
    rw [List.getElem?_take] at hx
    split at hx
    · exact hx
    · cases hx
/-- The rule at k is valid and not told before. -/
def ruOk (l : List RuD) (k : Nat) : Bool := match l[k]? with | some r => ruB r && !((l.take k).any (eqR r)) | none => true
def dkB (l : List RuD) : Bool := decide (l.length ≤ 12) && (List.range l.length).all (ruOk l)
theorem ruOk_bad {l : List RuD} {k : Nat} {y : RuD} (hx : l[k]? = some y) (h : ruB y = false) : ruOk l k = false := by
  rw [ruOk, hx]; simp [h]
theorem ruOk_dup {l : List RuD} {k : Nat} {y : RuD} (hx : l[k]? = some y) (h : (l.take k).any (eqR y) = true) : ruOk l k = false := by
  rw [ruOk, hx]; simp only [h]; simp
theorem ruOk_good {l : List RuD} {k : Nat} {y : RuD} (hx : l[k]? = some y) (h : ruB y = true) (h2 : (l.take k).any (eqR y) = false) : ruOk l k = true := by
  rw [ruOk, hx]; simp only [h, h2]; rfl

set_option maxRecDepth 100000 in
set_option maxHeartbeats 4000000 in
theorem pRule_any (x : RuD) (w : World) :
    Calls Tryz.prog 51 #[.agg #[.int .i64 x.a, .int .i64 x.b, .int .i64 x.c, .int .i64 x.d, .int .i64 x.e]] w fun e w' => e = .returned (.bool (ruB x)) ∧ Ext w w' := by
  obtain ⟨a, b, c, d, e⟩ := x
  cases hk : wit a 0 5 with
  | false =>
    have hr : Hid (false = ruB ⟨a, b, c, d, e⟩) := by show _ = _; rw [ru_out hk]
    go_enter Tryz.func51, Tryz.ntmps51
    go_upto_region 1 with (fail)
    generalize hW : World.alloc _ _ = W0
    obtain ⟨E0, z0, b0⟩ := boxes1 hW
    clear hW z0
    replace b0 := hid (show Blk W0 (w.heap.size) [_, _, _, _, _] _ from b0)
    have g0 := b0.out.cells
    have l0 := b0.out.lt
    have E := Ext.refl W0
    go_wp2_with (first | (go_at_call 54; refine (within_any _ _ _ _).mono ?_; rintro e w2 ⟨rfl, rfl⟩))
    go_ret
    exact ⟨ret_bool hr.out, E0.trans E⟩
  | true =>
    have h' : 0 ≤ a ∧ a ≤ 5 := by simpa [wit] using hk
    have h6 : a = 0 ∨ a = 1 ∨ a = 2 ∨ a = 3 ∨ a = 4 ∨ a = 5 := by omega
    rcases h6 with rfl | rfl | rfl | rfl | rfl | rfl
    · exact pRu0 b c d e w
    · exact pRu1 b c d e w
    · exact pRu2 b c d e w
    · exact pRu3 b c d e w
    · exact pRu4 b c d e w
    · exact pRu5 b c d e w

set_option maxRecDepth 100000 in
set_option maxHeartbeats 4000000 in
theorem rRule_any (x : RuD) (w : World) :
    Calls Tryz.prog 37 #[.agg #[.int .i64 x.a, .int .i64 x.b, .int .i64 x.c, .int .i64 x.d, .int .i64 x.e]] w fun e w' => e = .returned (.bool (ruB x)) ∧ Ext w w' := by
  obtain ⟨a, b, c, d, e⟩ := x
  cases hk : wit a 0 5 with
  | false =>
    have hr : Hid (false = ruB ⟨a, b, c, d, e⟩) := by show _ = _; rw [ru_out hk]
    go_enter Tryz.func37, Tryz.ntmps37
    go_upto_region 1 with (fail)
    generalize hW : World.alloc _ _ = W0
    obtain ⟨E0, z0, b0⟩ := boxes1 hW
    clear hW z0
    replace b0 := hid (show Blk W0 (w.heap.size) [_, _, _, _, _] _ from b0)
    have g0 := b0.out.cells
    have l0 := b0.out.lt
    have E := Ext.refl W0
    go_wp2_with (first | (go_at_call 40; refine (l16In_any _ _ _ _).mono ?_; rintro e w2 ⟨rfl, rfl⟩))
    go_ret
    exact ⟨ret_bool hr.out, E0.trans E⟩
  | true =>
    have h' : 0 ≤ a ∧ a ≤ 5 := by simpa [wit] using hk
    have h6 : a = 0 ∨ a = 1 ∨ a = 2 ∨ a = 3 ∨ a = 4 ∨ a = 5 := by omega
    rcases h6 with rfl | rfl | rfl | rfl | rfl | rfl
    · exact rRu0 b c d e w
    · exact rRu1 b c d e w
    · exact rRu2 b c d e w
    · exact rRu3 b c d e w
    · exact rRu4 b c d e w
    · exact rRu5 b c d e w

end Go.Proofs.YtajlkanocngdfaaGreat
