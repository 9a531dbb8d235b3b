/- Validity of edits: all kinds; the reference. Condition: lengths that fit. -/
import Derived.Test.YtncmhefendhinaaGreatDoorVed
namespace Go.Proofs.YtncmhefendhinaaGreatDoor
open Go.RowKit Go.PlainAid


theorem emp_nil : emp.toList = [] := by simp [emp]
theorem eqS_self (x : ShD) : eqS x x = true := by simp [eqS]
theorem eqL_self (x : LbD) : eqL x x = true := by simp [eqL]
theorem eqI_self (x : InD) : eqI x x = true := by simp [eqI]
theorem bq {α : Type} [BEq α] [LawfulBEq α] (a b : α) : (a == b) = (b == a) := by
  cases h : (b == a) with
  | true => rw [eq_of_beq h]; simp
  | false =>
    cases h2 : (a == b) with
    | true => rw [eq_of_beq h2] at h; simp at h
    | false => rfl
theorem eqS_comm (x y : ShD) : eqS x y = eqS y x := by unfold eqS; rw [bq x.a, bq x.box.a, bq x.box.b, bq x.box.c, bq x.box.d]
theorem eqL_comm (x y : LbD) : eqL x y = eqL y x := by unfold eqL; rw [bq x.a, bq x.pt.a, bq x.pt.b, bq x.s.toList]
theorem eqI_comm (x y : InD) : eqI x y = eqI y x := by unfold eqI; rw [bq x.a, bq x.tr.a, bq x.tr.b, bq x.tr.c, bq x.c, bq x.d, bq x.e, bq x.f]
theorem eqE_gen (a b c c1 : Int) (s s1 : ByteArray) (S S1 : ShD) (L L1 : LbD) (I I1 : InD) : eqE ⟨a, b, c1, s1, S1, L1, I1⟩ ⟨a, b, c, s, S, L, I⟩ = ((c1 == c) && ((s1.toList == s.toList) && (eqS S1 S && (eqL L1 L && eqI I1 I)))) := by
  unfold eqE
  simp only [beq_self_eq_true, Bool.true_and]

theorem edP_k {e : EdD} (h0 : wit e.b 0 8 = true) (h1 : wit e.c 0 24 = true) : edP e = edK e := by unfold edP; rw [h0, h1]; rfl

set_option maxRecDepth 100000 in
set_option maxHeartbeats 4000000 in
theorem pEdit_any (a b c : Int) (s : ByteArray) (sh : ShD) (lb : LbD) (ins : InD) (w : World) (hs1 : s.size ≤ 9223372036854775807) (hs2 : lb.s.size ≤ 9223372036854775807) :
    Calls Tryz.prog 33 #[.agg #[.int .i64 a, .int .i64 b, .int .i64 c, .string s, .int .i64 sh.a, .int .i64 sh.box.a, .int .i64 sh.box.b, .int .i64 sh.box.c, .int .i64 sh.box.d, .int .i64 lb.a, .int .i64 lb.pt.a, .int .i64 lb.pt.b, .string lb.s, .int .i64 ins.a, .int .i64 ins.tr.a, .int .i64 ins.tr.b, .int .i64 ins.tr.c, .int .i64 ins.c, .int .i64 ins.d, .int .i64 ins.e, .int .i64 ins.f]] w fun e w' => e = .returned (.bool (edP ⟨a, b, c, s, sh, lb, ins⟩)) ∧ Ext w w' := by
  cases h0 : wit b 0 8 with
  | false =>
    have hr : Hid (false = edP ⟨a, b, c, s, sh, lb, ins⟩) := by show _ = _; unfold edP; rw [h0]; rfl
    go_enter Tryz.func33, Tryz.ntmps33
    go_upto_region 1 with (fail)
    generalize hW : World.alloc _ _ = W0
    obtain ⟨E0, z0, b0⟩ := boxes1 hW
    clear hW z0
    replace b0 := hid (show Blk W0 (w.heap.size) [_, _, _, _, _, _, _, _, _, _, _, _, _, _, _, _, _, _, _, _, _] _ from b0)
    have g0 := b0.out.cells
    have l0 := b0.out.lt
    have E := Ext.refl W0
    go_wp2_with (first | (go_at_call 67; refine (within_any _ _ _ _).mono ?_; rintro e w2 ⟨rfl, rfl⟩))
    go_ret
    exact ⟨ret_bool hr.out, E0.trans E⟩
  | true =>
    cases h1 : wit c 0 24 with
    | false =>
      have hr : Hid (false = edP ⟨a, b, c, s, sh, lb, ins⟩) := by show _ = _; unfold edP; rw [h0, h1]; rfl
      go_enter Tryz.func33, Tryz.ntmps33
      go_upto_region 1 with (fail)
      generalize hW : World.alloc _ _ = W0
      obtain ⟨E0, z0, b0⟩ := boxes1 hW
      clear hW z0
      replace b0 := hid (show Blk W0 (w.heap.size) [_, _, _, _, _, _, _, _, _, _, _, _, _, _, _, _, _, _, _, _, _] _ from b0)
      have g0 := b0.out.cells
      have l0 := b0.out.lt
      have E := Ext.refl W0
      go_wp2_with (first | (go_at_call 67; refine (within_any _ _ _ _).mono ?_; rintro e w2 ⟨rfl, rfl⟩))
      go_ret
      exact ⟨ret_bool hr.out, E0.trans E⟩
    | true =>
      by_cases e1 : a = 1
      · subst e1
        rw [edP_k h0 h1]
        exact pEd1 b c s sh lb ins w hs1 hs2 h0 h1
      by_cases e2 : a = 2
      · subst e2
        rw [edP_k h0 h1]
        exact pEd2 b c s sh lb ins w hs1 hs2 h0 h1
      by_cases e3 : a = 3
      · subst e3
        rw [edP_k h0 h1]
        exact pEd3 b c s sh lb ins w hs1 hs2 h0 h1
      by_cases e4 : a = 4
      · subst e4
        rw [edP_k h0 h1]
        exact pEd4 b c s sh lb ins w hs1 hs2 h0 h1
      by_cases e5 : a = 5
      · subst e5
        rw [edP_k h0 h1]
        exact pEd5 b c s sh lb ins w hs1 hs2 h0 h1
      by_cases e6 : a = 6
      · subst e6
        rw [edP_k h0 h1]
        exact pEd6 b c s sh lb ins w hs1 hs2 h0 h1
      by_cases e7 : a = 7
      · subst e7
        rw [edP_k h0 h1]
        exact pEd7 b c s sh lb ins w hs1 hs2 h0 h1
      by_cases e8 : a = 8
      · subst e8
        rw [edP_k h0 h1]
        exact pEd8 b c s sh lb ins w hs1 hs2 h0 h1
      by_cases e9 : a = 9
      · subst e9
        rw [edP_k h0 h1]
        exact pEd9 b c s sh lb ins w hs1 hs2 h0 h1
      have hr : Hid (false = edP ⟨a, b, c, s, sh, lb, ins⟩) := by
        show _ = _
        rw [edP_k h0 h1]
        unfold edK
        rw [if_neg e1, if_neg e3, if_neg e5, if_neg (show ¬ (a = 2 ∨ a = 4 ∨ a = 6) by omega), if_neg (show ¬ (a = 7 ∨ a = 8) by omega), if_neg e9]
      have q1 : (a == 1) = false := by simpa using e1
      have q2 : (a == 2) = false := by simpa using e2
      have q3 : (a == 3) = false := by simpa using e3
      have q4 : (a == 4) = false := by simpa using e4
      have q5 : (a == 5) = false := by simpa using e5
      have q6 : (a == 6) = false := by simpa using e6
      have q7 : (a == 7) = false := by simpa using e7
      have q8 : (a == 8) = false := by simpa using e8
      have q9 : (a == 9) = false := by simpa using e9
      go_enter Tryz.func33, Tryz.ntmps33
      go_upto_region 1 with (fail)
      generalize hW : World.alloc _ _ = W0
      obtain ⟨E0, z0, b0⟩ := boxes1 hW
      clear hW z0
      replace b0 := hid (show Blk W0 (w.heap.size) [_, _, _, _, _, _, _, _, _, _, _, _, _, _, _, _, _, _, _, _, _] _ from b0)
      have g0 := b0.out.cells
      have l0 := b0.out.lt
      have E := Ext.refl W0
      go_wp2_with (first | (go_at_call 67; refine (within_any _ _ _ _).mono ?_; rintro e w2 ⟨rfl, rfl⟩) | ((with_reducible refine at_dst 18 ?_); refine wpList_build (op := ⟨some 18, _, _, _, _, _⟩) rfl 39 _ rfl [(0, .int .i64 a), (1, .int .i64 b)] rfl _ (built_Ed a b) ?_) | ((with_reducible refine at_store ?_); refine wpList_newEd (op := ⟨none, _, _, _, _, _⟩) rfl (Operand.tmp 3) (Operand.tmp 18) rfl ⟨a, b, 0, emp, zS, zL, zI⟩ _ rfl rfl rfl ?_; intro W1 b1 E1; replace E := E.trans E1; clear g0 l0; have g0 := (b0.out.ext E).cells; have l0 := (b0.out.ext E).lt))
      go_ret
      exact ⟨ret_bool hr.out, E0.trans E⟩
set_option maxRecDepth 100000 in
set_option maxHeartbeats 4000000 in
theorem rNoShape_any (x : ShD) (w : World) :
    Calls Tryz.prog 48 #[.agg #[.int .i64 x.a, .int .i64 x.box.a, .int .i64 x.box.b, .int .i64 x.box.c, .int .i64 x.box.d]] w fun e w' => e = .returned (.bool (eqS x zS)) ∧ Ext w w' := by
  go_enter Tryz.func48, Tryz.ntmps48
  go_upto_region 1 with (fail)
  generalize hW : World.alloc _ _ = W0
  obtain ⟨E0, z0, b0⟩ := boxes1 hW
  clear hW z0
  replace b0 := hid (show Blk W0 (w.heap.size) [_, _, _, _, _] _ from b0)
  have g0 := b0.out.cells
  have l0 := b0.out.lt
  have E := Ext.refl W0
  go_wp2_with (fail)
  all_goals go_ret
  all_goals clear g0 l0 b0
  all_goals exact ⟨ret_bool (by simp_all [eqS, zS]), E0.trans E⟩
set_option maxRecDepth 100000 in
set_option maxHeartbeats 4000000 in
theorem rNoLabel_any (x : LbD) (w : World) :
    Calls Tryz.prog 49 #[.agg #[.int .i64 x.a, .int .i64 x.pt.a, .int .i64 x.pt.b, .string x.s]] w fun e w' => e = .returned (.bool (eqL x zL)) ∧ Ext w w' := by
  go_enter Tryz.func49, Tryz.ntmps49
  go_upto_region 1 with (fail)
  generalize hW : World.alloc _ _ = W0
  obtain ⟨E0, z0, b0⟩ := boxes1 hW
  clear hW z0
  replace b0 := hid (show Blk W0 (w.heap.size) [_, _, _, _] _ from b0)
  have g0 := b0.out.cells
  have l0 := b0.out.lt
  have E := Ext.refl W0
  go_wp2_with (fail)
  all_goals go_ret
  all_goals clear g0 l0 b0
  all_goals exact ⟨ret_bool (by simp_all [eqL, zL, emp_nil]), E0.trans E⟩
set_option maxRecDepth 100000 in
set_option maxHeartbeats 4000000 in
theorem rNoInstance_any (x : InD) (w : World) :
    Calls Tryz.prog 50 #[.agg #[.int .i64 x.a, .int .i64 x.tr.a, .int .i64 x.tr.b, .int .i64 x.tr.c, .int .i64 x.c, .int .i64 x.d, .int .i64 x.e, .int .i64 x.f]] w fun e w' => e = .returned (.bool (eqI x zI)) ∧ Ext w w' := by
  go_enter Tryz.func50, Tryz.ntmps50
  go_upto_region 1 with (fail)
  generalize hW : World.alloc _ _ = W0
  obtain ⟨E0, z0, b0⟩ := boxes1 hW
  clear hW z0
  replace b0 := hid (show Blk W0 (w.heap.size) [_, _, _, _, _, _, _, _] _ from b0)
  have g0 := b0.out.cells
  have l0 := b0.out.lt
  have E := Ext.refl W0
  go_wp2_with (fail)
  all_goals go_ret
  all_goals clear g0 l0 b0
  all_goals exact ⟨ret_bool (by simp_all [eqI, zI]), E0.trans E⟩
theorem edR_1 (b c : Int) (s : ByteArray) (sh : ShD) (lb : LbD) (ins : InD) : edK ⟨1, b, c, s, sh, lb, ins⟩ = ((s.toList == []) && (shB sh && (eqL lb zL && (eqI ins zI)))) := by
  rw [edK_1, eqE_gen, beq_self_eq_true c, emp_nil, bq [] s.toList, eqS_self, eqL_comm zL lb, eqI_comm zI ins]
  generalize (s.toList == []) = P
  generalize shB sh = Q
  generalize eqL lb zL = R
  generalize eqI ins zI = S
  revert P Q R S
  decide

theorem edR_2 (b c : Int) (s : ByteArray) (sh : ShD) (lb : LbD) (ins : InD) : edK ⟨2, b, c, s, sh, lb, ins⟩ = ((s.toList == []) && (eqS sh zS && (eqL lb zL && (eqI ins zI)))) := by
  rw [edK_2, eqE_gen, beq_self_eq_true c, emp_nil, bq [] s.toList, eqS_comm zS sh, eqL_comm zL lb, eqI_comm zI ins]
  generalize (s.toList == []) = P
  generalize eqS sh zS = Q
  generalize eqL lb zL = R
  generalize eqI ins zI = S
  revert P Q R S
  decide

theorem edR_3 (b c : Int) (s : ByteArray) (sh : ShD) (lb : LbD) (ins : InD) : edK ⟨3, b, c, s, sh, lb, ins⟩ = ((s.toList == []) && (eqS sh zS && (lbB lb && (eqI ins zI)))) := by
  rw [edK_3, eqE_gen, beq_self_eq_true c, emp_nil, bq [] s.toList, eqS_comm zS sh, eqL_self, eqI_comm zI ins]
  generalize (s.toList == []) = P
  generalize eqS sh zS = Q
  generalize lbB lb = R
  generalize eqI ins zI = S
  revert P Q R S
  decide

theorem edR_4 (b c : Int) (s : ByteArray) (sh : ShD) (lb : LbD) (ins : InD) : edK ⟨4, b, c, s, sh, lb, ins⟩ = ((s.toList == []) && (eqS sh zS && (eqL lb zL && (eqI ins zI)))) := by
  rw [edK_4, eqE_gen, beq_self_eq_true c, emp_nil, bq [] s.toList, eqS_comm zS sh, eqL_comm zL lb, eqI_comm zI ins]
  generalize (s.toList == []) = P
  generalize eqS sh zS = Q
  generalize eqL lb zL = R
  generalize eqI ins zI = S
  revert P Q R S
  decide

theorem edR_5 (b c : Int) (s : ByteArray) (sh : ShD) (lb : LbD) (ins : InD) : edK ⟨5, b, c, s, sh, lb, ins⟩ = ((s.toList == []) && (eqS sh zS && (eqL lb zL && (inB ins 8)))) := by
  rw [edK_5, eqE_gen, beq_self_eq_true c, emp_nil, bq [] s.toList, eqS_comm zS sh, eqL_comm zL lb, eqI_self]
  generalize (s.toList == []) = P
  generalize eqS sh zS = Q
  generalize eqL lb zL = R
  generalize inB ins 8 = S
  revert P Q R S
  decide

theorem edR_6 (b c : Int) (s : ByteArray) (sh : ShD) (lb : LbD) (ins : InD) : edK ⟨6, b, c, s, sh, lb, ins⟩ = ((s.toList == []) && (eqS sh zS && (eqL lb zL && (eqI ins zI)))) := by
  rw [edK_6, eqE_gen, beq_self_eq_true c, emp_nil, bq [] s.toList, eqS_comm zS sh, eqL_comm zL lb, eqI_comm zI ins]
  generalize (s.toList == []) = P
  generalize eqS sh zS = Q
  generalize eqL lb zL = R
  generalize eqI ins zI = S
  revert P Q R S
  decide

theorem edR_7 (b c : Int) (s : ByteArray) (sh : ShD) (lb : LbD) (ins : InD) : edK ⟨7, b, c, s, sh, lb, ins⟩ = ((c == 0) && (nameB s && (eqS sh zS && (eqL lb zL && (eqI ins zI))))) := by
  rw [edK_7, eqE_gen, bq 0 c, beq_self_eq_true s.toList, eqS_comm zS sh, eqL_comm zL lb, eqI_comm zI ins]
  generalize (c == 0) = P
  generalize nameB s = Q
  generalize eqS sh zS = R
  generalize eqL lb zL = S
  generalize eqI ins zI = T
  revert P Q R S T
  decide

theorem edR_8 (b c : Int) (s : ByteArray) (sh : ShD) (lb : LbD) (ins : InD) : edK ⟨8, b, c, s, sh, lb, ins⟩ = ((c == 0) && (nameB s && (eqS sh zS && (eqL lb zL && (eqI ins zI))))) := by
  rw [edK_8, eqE_gen, bq 0 c, beq_self_eq_true s.toList, eqS_comm zS sh, eqL_comm zL lb, eqI_comm zI ins]
  generalize (c == 0) = P
  generalize nameB s = Q
  generalize eqS sh zS = R
  generalize eqL lb zL = S
  generalize eqI ins zI = T
  revert P Q R S T
  decide

theorem edR_9 (b c : Int) (s : ByteArray) (sh : ShD) (lb : LbD) (ins : InD) : edK ⟨9, b, c, s, sh, lb, ins⟩ = ((c == 0) && ((s.toList == []) && (eqS sh zS && (eqL lb zL && (eqI ins zI))))) := by
  rw [edK_9, eqE_gen, bq 0 c, emp_nil, bq [] s.toList, eqS_comm zS sh, eqL_comm zL lb, eqI_comm zI ins]

set_option maxRecDepth 100000 in
set_option maxHeartbeats 4000000 in
theorem rEd1 (b c : Int) (s : ByteArray) (sh : ShD) (lb : LbD) (ins : InD) (w : World) (hs1 : s.size ≤ 9223372036854775807) (hs2 : lb.s.size ≤ 9223372036854775807) (h0 : wit b 0 8 = true) (h1 : wit c 0 24 = true) :
    Calls Tryz.prog 27 #[.agg #[.int .i64 1, .int .i64 b, .int .i64 c, .string s, .int .i64 sh.a, .int .i64 sh.box.a, .int .i64 sh.box.b, .int .i64 sh.box.c, .int .i64 sh.box.d, .int .i64 lb.a, .int .i64 lb.pt.a, .int .i64 lb.pt.b, .string lb.s, .int .i64 ins.a, .int .i64 ins.tr.a, .int .i64 ins.tr.b, .int .i64 ins.tr.c, .int .i64 ins.c, .int .i64 ins.d, .int .i64 ins.e, .int .i64 ins.f]] w fun e w' => e = .returned (.bool (edK ⟨1, b, c, s, sh, lb, ins⟩)) ∧ Ext w w' := by
  have _u := And.intro hs1 hs2
  clear _u
  have hk : wit 1 1 9 = true := by decide
  cases a0 : (s.toList == []) with
  | false =>
    have hr : Hid (false = edK ⟨1, b, c, s, sh, lb, ins⟩) := by show _ = _; rw [edR_1, a0]; rfl
    have q0 : ¬ s.toList = [] := by simpa using a0
    go_enter Tryz.func27, Tryz.ntmps27
    go_upto_region 1 with (fail)
    generalize hW : World.alloc _ _ = W0
    obtain ⟨E0, z0, b0⟩ := boxes1 hW
    clear hW z0
    replace b0 := hid (show Blk W0 (w.heap.size) [_, _, _, _, _, _, _, _, _, _, _, _, _, _, _, _, _, _, _, _, _] _ from b0)
    have g0 := b0.out.cells
    have l0 := b0.out.lt
    have E := Ext.refl W0
    go_wp2_with (first | (go_at_call 47; refine (l09In_any _ _ _ _).mono ?_; rintro e w2 ⟨rfl, rfl⟩))
    go_ret
    exact ⟨ret_bool hr.out, E0.trans E⟩
  | true =>
    have q0 : s.toList = [] := by simpa using a0
    cases a1 : shB sh with
    | false =>
      have hr : Hid (false = edK ⟨1, b, c, s, sh, lb, ins⟩) := by show _ = _; rw [edR_1, a0, a1]; rfl
      go_enter Tryz.func27, Tryz.ntmps27
      go_upto_region 1 with (fail)
      generalize hW : World.alloc _ _ = W0
      obtain ⟨E0, z0, b0⟩ := boxes1 hW
      clear hW z0
      replace b0 := hid (show Blk W0 (w.heap.size) [_, _, _, _, _, _, _, _, _, _, _, _, _, _, _, _, _, _, _, _, _] _ from b0)
      have g0 := b0.out.cells
      have l0 := b0.out.lt
      have E := Ext.refl W0
      go_wp2_with (first | (go_at_call 47; refine (l09In_any _ _ _ _).mono ?_; rintro e w2 ⟨rfl, rfl⟩) | (go_at_call 42; refine (rShape_any sh _).mono ?_; rintro e w12 ⟨rfl, E12⟩; replace E := E.trans E12; clear g0 l0 E12; have g0 := (b0.out.ext E).cells; have l0 := (b0.out.ext E).lt))
      go_ret
      exact ⟨ret_bool hr.out, E0.trans E⟩
    | true =>
      cases a2 : eqL lb zL with
      | false =>
        have hr : Hid (false = edK ⟨1, b, c, s, sh, lb, ins⟩) := by show _ = _; rw [edR_1, a0, a1, a2]; rfl
        go_enter Tryz.func27, Tryz.ntmps27
        go_upto_region 1 with (fail)
        generalize hW : World.alloc _ _ = W0
        obtain ⟨E0, z0, b0⟩ := boxes1 hW
        clear hW z0
        replace b0 := hid (show Blk W0 (w.heap.size) [_, _, _, _, _, _, _, _, _, _, _, _, _, _, _, _, _, _, _, _, _] _ from b0)
        have g0 := b0.out.cells
        have l0 := b0.out.lt
        have E := Ext.refl W0
        go_wp2_with (first | (go_at_call 47; refine (l09In_any _ _ _ _).mono ?_; rintro e w2 ⟨rfl, rfl⟩) | (go_at_call 42; refine (rShape_any sh _).mono ?_; rintro e w12 ⟨rfl, E12⟩; replace E := E.trans E12; clear g0 l0 E12; have g0 := (b0.out.ext E).cells; have l0 := (b0.out.ext E).lt) | (go_at_call 49; refine (rNoLabel_any lb _).mono ?_; rintro e w16 ⟨rfl, E16⟩; replace E := E.trans E16; clear g0 l0 E16; have g0 := (b0.out.ext E).cells; have l0 := (b0.out.ext E).lt))
        go_ret
        exact ⟨ret_bool hr.out, E0.trans E⟩
      | true =>
        have hr : Hid ((eqI ins zI) = edK ⟨1, b, c, s, sh, lb, ins⟩) := by show _ = _; rw [edR_1, a0, a1, a2]; rfl
        go_enter Tryz.func27, Tryz.ntmps27
        go_upto_region 1 with (fail)
        generalize hW : World.alloc _ _ = W0
        obtain ⟨E0, z0, b0⟩ := boxes1 hW
        clear hW z0
        replace b0 := hid (show Blk W0 (w.heap.size) [_, _, _, _, _, _, _, _, _, _, _, _, _, _, _, _, _, _, _, _, _] _ from b0)
        have g0 := b0.out.cells
        have l0 := b0.out.lt
        have E := Ext.refl W0
        go_wp2_with (first | (go_at_call 47; refine (l09In_any _ _ _ _).mono ?_; rintro e w2 ⟨rfl, rfl⟩) | (go_at_call 42; refine (rShape_any sh _).mono ?_; rintro e w12 ⟨rfl, E12⟩; replace E := E.trans E12; clear g0 l0 E12; have g0 := (b0.out.ext E).cells; have l0 := (b0.out.ext E).lt) | (go_at_call 49; refine (rNoLabel_any lb _).mono ?_; rintro e w16 ⟨rfl, E16⟩; replace E := E.trans E16; clear g0 l0 E16; have g0 := (b0.out.ext E).cells; have l0 := (b0.out.ext E).lt) | (go_at_call 50; refine (rNoInstance_any ins _).mono ?_; rintro e w17 ⟨rfl, E17⟩; replace E := E.trans E17; clear g0 l0 E17; have g0 := (b0.out.ext E).cells; have l0 := (b0.out.ext E).lt))
        go_ret
        exact ⟨ret_bool hr.out, E0.trans E⟩

set_option maxRecDepth 100000 in
set_option maxHeartbeats 4000000 in
theorem rEd2 (b c : Int) (s : ByteArray) (sh : ShD) (lb : LbD) (ins : InD) (w : World) (hs1 : s.size ≤ 9223372036854775807) (hs2 : lb.s.size ≤ 9223372036854775807) (h0 : wit b 0 8 = true) (h1 : wit c 0 24 = true) :
    Calls Tryz.prog 27 #[.agg #[.int .i64 2, .int .i64 b, .int .i64 c, .string s, .int .i64 sh.a, .int .i64 sh.box.a, .int .i64 sh.box.b, .int .i64 sh.box.c, .int .i64 sh.box.d, .int .i64 lb.a, .int .i64 lb.pt.a, .int .i64 lb.pt.b, .string lb.s, .int .i64 ins.a, .int .i64 ins.tr.a, .int .i64 ins.tr.b, .int .i64 ins.tr.c, .int .i64 ins.c, .int .i64 ins.d, .int .i64 ins.e, .int .i64 ins.f]] w fun e w' => e = .returned (.bool (edK ⟨2, b, c, s, sh, lb, ins⟩)) ∧ Ext w w' := by
  have _u := And.intro hs1 hs2
  clear _u
  have hk : wit 2 1 9 = true := by decide
  cases a0 : (s.toList == []) with
  | false =>
    have hr : Hid (false = edK ⟨2, b, c, s, sh, lb, ins⟩) := by show _ = _; rw [edR_2, a0]; rfl
    have q0 : ¬ s.toList = [] := by simpa using a0
    go_enter Tryz.func27, Tryz.ntmps27
    go_upto_region 1 with (fail)
    generalize hW : World.alloc _ _ = W0
    obtain ⟨E0, z0, b0⟩ := boxes1 hW
    clear hW z0
    replace b0 := hid (show Blk W0 (w.heap.size) [_, _, _, _, _, _, _, _, _, _, _, _, _, _, _, _, _, _, _, _, _] _ from b0)
    have g0 := b0.out.cells
    have l0 := b0.out.lt
    have E := Ext.refl W0
    go_wp2_with (first | (go_at_call 47; refine (l09In_any _ _ _ _).mono ?_; rintro e w2 ⟨rfl, rfl⟩))
    go_ret
    exact ⟨ret_bool hr.out, E0.trans E⟩
  | true =>
    have q0 : s.toList = [] := by simpa using a0
    cases a1 : eqS sh zS with
    | false =>
      have hr : Hid (false = edK ⟨2, b, c, s, sh, lb, ins⟩) := by show _ = _; rw [edR_2, a0, a1]; rfl
      go_enter Tryz.func27, Tryz.ntmps27
      go_upto_region 1 with (fail)
      generalize hW : World.alloc _ _ = W0
      obtain ⟨E0, z0, b0⟩ := boxes1 hW
      clear hW z0
      replace b0 := hid (show Blk W0 (w.heap.size) [_, _, _, _, _, _, _, _, _, _, _, _, _, _, _, _, _, _, _, _, _] _ from b0)
      have g0 := b0.out.cells
      have l0 := b0.out.lt
      have E := Ext.refl W0
      go_wp2_with (first | (go_at_call 47; refine (l09In_any _ _ _ _).mono ?_; rintro e w2 ⟨rfl, rfl⟩) | (go_at_call 48; refine (rNoShape_any sh _).mono ?_; rintro e w15 ⟨rfl, E15⟩; replace E := E.trans E15; clear g0 l0 E15; have g0 := (b0.out.ext E).cells; have l0 := (b0.out.ext E).lt))
      go_ret
      exact ⟨ret_bool hr.out, E0.trans E⟩
    | true =>
      cases a2 : eqL lb zL with
      | false =>
        have hr : Hid (false = edK ⟨2, b, c, s, sh, lb, ins⟩) := by show _ = _; rw [edR_2, a0, a1, a2]; rfl
        go_enter Tryz.func27, Tryz.ntmps27
        go_upto_region 1 with (fail)
        generalize hW : World.alloc _ _ = W0
        obtain ⟨E0, z0, b0⟩ := boxes1 hW
        clear hW z0
        replace b0 := hid (show Blk W0 (w.heap.size) [_, _, _, _, _, _, _, _, _, _, _, _, _, _, _, _, _, _, _, _, _] _ from b0)
        have g0 := b0.out.cells
        have l0 := b0.out.lt
        have E := Ext.refl W0
        go_wp2_with (first | (go_at_call 47; refine (l09In_any _ _ _ _).mono ?_; rintro e w2 ⟨rfl, rfl⟩) | (go_at_call 48; refine (rNoShape_any sh _).mono ?_; rintro e w15 ⟨rfl, E15⟩; replace E := E.trans E15; clear g0 l0 E15; have g0 := (b0.out.ext E).cells; have l0 := (b0.out.ext E).lt) | (go_at_call 49; refine (rNoLabel_any lb _).mono ?_; rintro e w16 ⟨rfl, E16⟩; replace E := E.trans E16; clear g0 l0 E16; have g0 := (b0.out.ext E).cells; have l0 := (b0.out.ext E).lt))
        go_ret
        exact ⟨ret_bool hr.out, E0.trans E⟩
      | true =>
        have hr : Hid ((eqI ins zI) = edK ⟨2, b, c, s, sh, lb, ins⟩) := by show _ = _; rw [edR_2, a0, a1, a2]; rfl
        go_enter Tryz.func27, Tryz.ntmps27
        go_upto_region 1 with (fail)
        generalize hW : World.alloc _ _ = W0
        obtain ⟨E0, z0, b0⟩ := boxes1 hW
        clear hW z0
        replace b0 := hid (show Blk W0 (w.heap.size) [_, _, _, _, _, _, _, _, _, _, _, _, _, _, _, _, _, _, _, _, _] _ from b0)
        have g0 := b0.out.cells
        have l0 := b0.out.lt
        have E := Ext.refl W0
        go_wp2_with (first | (go_at_call 47; refine (l09In_any _ _ _ _).mono ?_; rintro e w2 ⟨rfl, rfl⟩) | (go_at_call 48; refine (rNoShape_any sh _).mono ?_; rintro e w15 ⟨rfl, E15⟩; replace E := E.trans E15; clear g0 l0 E15; have g0 := (b0.out.ext E).cells; have l0 := (b0.out.ext E).lt) | (go_at_call 49; refine (rNoLabel_any lb _).mono ?_; rintro e w16 ⟨rfl, E16⟩; replace E := E.trans E16; clear g0 l0 E16; have g0 := (b0.out.ext E).cells; have l0 := (b0.out.ext E).lt) | (go_at_call 50; refine (rNoInstance_any ins _).mono ?_; rintro e w17 ⟨rfl, E17⟩; replace E := E.trans E17; clear g0 l0 E17; have g0 := (b0.out.ext E).cells; have l0 := (b0.out.ext E).lt))
        go_ret
        exact ⟨ret_bool hr.out, E0.trans E⟩

set_option maxRecDepth 100000 in
set_option maxHeartbeats 4000000 in
theorem rEd3 (b c : Int) (s : ByteArray) (sh : ShD) (lb : LbD) (ins : InD) (w : World) (hs1 : s.size ≤ 9223372036854775807) (hs2 : lb.s.size ≤ 9223372036854775807) (h0 : wit b 0 8 = true) (h1 : wit c 0 24 = true) :
    Calls Tryz.prog 27 #[.agg #[.int .i64 3, .int .i64 b, .int .i64 c, .string s, .int .i64 sh.a, .int .i64 sh.box.a, .int .i64 sh.box.b, .int .i64 sh.box.c, .int .i64 sh.box.d, .int .i64 lb.a, .int .i64 lb.pt.a, .int .i64 lb.pt.b, .string lb.s, .int .i64 ins.a, .int .i64 ins.tr.a, .int .i64 ins.tr.b, .int .i64 ins.tr.c, .int .i64 ins.c, .int .i64 ins.d, .int .i64 ins.e, .int .i64 ins.f]] w fun e w' => e = .returned (.bool (edK ⟨3, b, c, s, sh, lb, ins⟩)) ∧ Ext w w' := by
  have _u := And.intro hs1 hs2
  clear _u
  have hk : wit 3 1 9 = true := by decide
  cases a0 : (s.toList == []) with
  | false =>
    have hr : Hid (false = edK ⟨3, b, c, s, sh, lb, ins⟩) := by show _ = _; rw [edR_3, a0]; rfl
    have q0 : ¬ s.toList = [] := by simpa using a0
    go_enter Tryz.func27, Tryz.ntmps27
    go_upto_region 1 with (fail)
    generalize hW : World.alloc _ _ = W0
    obtain ⟨E0, z0, b0⟩ := boxes1 hW
    clear hW z0
    replace b0 := hid (show Blk W0 (w.heap.size) [_, _, _, _, _, _, _, _, _, _, _, _, _, _, _, _, _, _, _, _, _] _ from b0)
    have g0 := b0.out.cells
    have l0 := b0.out.lt
    have E := Ext.refl W0
    go_wp2_with (first | (go_at_call 47; refine (l09In_any _ _ _ _).mono ?_; rintro e w2 ⟨rfl, rfl⟩))
    go_ret
    exact ⟨ret_bool hr.out, E0.trans E⟩
  | true =>
    have q0 : s.toList = [] := by simpa using a0
    cases a1 : eqS sh zS with
    | false =>
      have hr : Hid (false = edK ⟨3, b, c, s, sh, lb, ins⟩) := by show _ = _; rw [edR_3, a0, a1]; rfl
      go_enter Tryz.func27, Tryz.ntmps27
      go_upto_region 1 with (fail)
      generalize hW : World.alloc _ _ = W0
      obtain ⟨E0, z0, b0⟩ := boxes1 hW
      clear hW z0
      replace b0 := hid (show Blk W0 (w.heap.size) [_, _, _, _, _, _, _, _, _, _, _, _, _, _, _, _, _, _, _, _, _] _ from b0)
      have g0 := b0.out.cells
      have l0 := b0.out.lt
      have E := Ext.refl W0
      go_wp2_with (first | (go_at_call 47; refine (l09In_any _ _ _ _).mono ?_; rintro e w2 ⟨rfl, rfl⟩) | (go_at_call 48; refine (rNoShape_any sh _).mono ?_; rintro e w15 ⟨rfl, E15⟩; replace E := E.trans E15; clear g0 l0 E15; have g0 := (b0.out.ext E).cells; have l0 := (b0.out.ext E).lt))
      go_ret
      exact ⟨ret_bool hr.out, E0.trans E⟩
    | true =>
      cases a2 : lbB lb with
      | false =>
        have hr : Hid (false = edK ⟨3, b, c, s, sh, lb, ins⟩) := by show _ = _; rw [edR_3, a0, a1, a2]; rfl
        go_enter Tryz.func27, Tryz.ntmps27
        go_upto_region 1 with (fail)
        generalize hW : World.alloc _ _ = W0
        obtain ⟨E0, z0, b0⟩ := boxes1 hW
        clear hW z0
        replace b0 := hid (show Blk W0 (w.heap.size) [_, _, _, _, _, _, _, _, _, _, _, _, _, _, _, _, _, _, _, _, _] _ from b0)
        have g0 := b0.out.cells
        have l0 := b0.out.lt
        have E := Ext.refl W0
        go_wp2_with (first | (go_at_call 47; refine (l09In_any _ _ _ _).mono ?_; rintro e w2 ⟨rfl, rfl⟩) | (go_at_call 48; refine (rNoShape_any sh _).mono ?_; rintro e w15 ⟨rfl, E15⟩; replace E := E.trans E15; clear g0 l0 E15; have g0 := (b0.out.ext E).cells; have l0 := (b0.out.ext E).lt) | (go_at_call 43; refine (rLabel_any lb _ hs2).mono ?_; rintro e w13 ⟨rfl, E13⟩; replace E := E.trans E13; clear g0 l0 E13; have g0 := (b0.out.ext E).cells; have l0 := (b0.out.ext E).lt))
        go_ret
        exact ⟨ret_bool hr.out, E0.trans E⟩
      | true =>
        have hr : Hid ((eqI ins zI) = edK ⟨3, b, c, s, sh, lb, ins⟩) := by show _ = _; rw [edR_3, a0, a1, a2]; rfl
        go_enter Tryz.func27, Tryz.ntmps27
        go_upto_region 1 with (fail)
        generalize hW : World.alloc _ _ = W0
        obtain ⟨E0, z0, b0⟩ := boxes1 hW
        clear hW z0
        replace b0 := hid (show Blk W0 (w.heap.size) [_, _, _, _, _, _, _, _, _, _, _, _, _, _, _, _, _, _, _, _, _] _ from b0)
        have g0 := b0.out.cells
        have l0 := b0.out.lt
        have E := Ext.refl W0
        go_wp2_with (first | (go_at_call 47; refine (l09In_any _ _ _ _).mono ?_; rintro e w2 ⟨rfl, rfl⟩) | (go_at_call 48; refine (rNoShape_any sh _).mono ?_; rintro e w15 ⟨rfl, E15⟩; replace E := E.trans E15; clear g0 l0 E15; have g0 := (b0.out.ext E).cells; have l0 := (b0.out.ext E).lt) | (go_at_call 43; refine (rLabel_any lb _ hs2).mono ?_; rintro e w13 ⟨rfl, E13⟩; replace E := E.trans E13; clear g0 l0 E13; have g0 := (b0.out.ext E).cells; have l0 := (b0.out.ext E).lt) | (go_at_call 50; refine (rNoInstance_any ins _).mono ?_; rintro e w17 ⟨rfl, E17⟩; replace E := E.trans E17; clear g0 l0 E17; have g0 := (b0.out.ext E).cells; have l0 := (b0.out.ext E).lt))
        go_ret
        exact ⟨ret_bool hr.out, E0.trans E⟩

set_option maxRecDepth 100000 in
set_option maxHeartbeats 4000000 in
theorem rEd4 (b c : Int) (s : ByteArray) (sh : ShD) (lb : LbD) (ins : InD) (w : World) (hs1 : s.size ≤ 9223372036854775807) (hs2 : lb.s.size ≤ 9223372036854775807) (h0 : wit b 0 8 = true) (h1 : wit c 0 24 = true) :
    Calls Tryz.prog 27 #[.agg #[.int .i64 4, .int .i64 b, .int .i64 c, .string s, .int .i64 sh.a, .int .i64 sh.box.a, .int .i64 sh.box.b, .int .i64 sh.box.c, .int .i64 sh.box.d, .int .i64 lb.a, .int .i64 lb.pt.a, .int .i64 lb.pt.b, .string lb.s, .int .i64 ins.a, .int .i64 ins.tr.a, .int .i64 ins.tr.b, .int .i64 ins.tr.c, .int .i64 ins.c, .int .i64 ins.d, .int .i64 ins.e, .int .i64 ins.f]] w fun e w' => e = .returned (.bool (edK ⟨4, b, c, s, sh, lb, ins⟩)) ∧ Ext w w' := by
  have _u := And.intro hs1 hs2
  clear _u
  have hk : wit 4 1 9 = true := by decide
  cases a0 : (s.toList == []) with
  | false =>
    have hr : Hid (false = edK ⟨4, b, c, s, sh, lb, ins⟩) := by show _ = _; rw [edR_4, a0]; rfl
    have q0 : ¬ s.toList = [] := by simpa using a0
    go_enter Tryz.func27, Tryz.ntmps27
    go_upto_region 1 with (fail)
    generalize hW : World.alloc _ _ = W0
    obtain ⟨E0, z0, b0⟩ := boxes1 hW
    clear hW z0
    replace b0 := hid (show Blk W0 (w.heap.size) [_, _, _, _, _, _, _, _, _, _, _, _, _, _, _, _, _, _, _, _, _] _ from b0)
    have g0 := b0.out.cells
    have l0 := b0.out.lt
    have E := Ext.refl W0
    go_wp2_with (first | (go_at_call 47; refine (l09In_any _ _ _ _).mono ?_; rintro e w2 ⟨rfl, rfl⟩))
    go_ret
    exact ⟨ret_bool hr.out, E0.trans E⟩
  | true =>
    have q0 : s.toList = [] := by simpa using a0
    cases a1 : eqS sh zS with
    | false =>
      have hr : Hid (false = edK ⟨4, b, c, s, sh, lb, ins⟩) := by show _ = _; rw [edR_4, a0, a1]; rfl
      go_enter Tryz.func27, Tryz.ntmps27
      go_upto_region 1 with (fail)
      generalize hW : World.alloc _ _ = W0
      obtain ⟨E0, z0, b0⟩ := boxes1 hW
      clear hW z0
      replace b0 := hid (show Blk W0 (w.heap.size) [_, _, _, _, _, _, _, _, _, _, _, _, _, _, _, _, _, _, _, _, _] _ from b0)
      have g0 := b0.out.cells
      have l0 := b0.out.lt
      have E := Ext.refl W0
      go_wp2_with (first | (go_at_call 47; refine (l09In_any _ _ _ _).mono ?_; rintro e w2 ⟨rfl, rfl⟩) | (go_at_call 48; refine (rNoShape_any sh _).mono ?_; rintro e w15 ⟨rfl, E15⟩; replace E := E.trans E15; clear g0 l0 E15; have g0 := (b0.out.ext E).cells; have l0 := (b0.out.ext E).lt))
      go_ret
      exact ⟨ret_bool hr.out, E0.trans E⟩
    | true =>
      cases a2 : eqL lb zL with
      | false =>
        have hr : Hid (false = edK ⟨4, b, c, s, sh, lb, ins⟩) := by show _ = _; rw [edR_4, a0, a1, a2]; rfl
        go_enter Tryz.func27, Tryz.ntmps27
        go_upto_region 1 with (fail)
        generalize hW : World.alloc _ _ = W0
        obtain ⟨E0, z0, b0⟩ := boxes1 hW
        clear hW z0
        replace b0 := hid (show Blk W0 (w.heap.size) [_, _, _, _, _, _, _, _, _, _, _, _, _, _, _, _, _, _, _, _, _] _ from b0)
        have g0 := b0.out.cells
        have l0 := b0.out.lt
        have E := Ext.refl W0
        go_wp2_with (first | (go_at_call 47; refine (l09In_any _ _ _ _).mono ?_; rintro e w2 ⟨rfl, rfl⟩) | (go_at_call 48; refine (rNoShape_any sh _).mono ?_; rintro e w15 ⟨rfl, E15⟩; replace E := E.trans E15; clear g0 l0 E15; have g0 := (b0.out.ext E).cells; have l0 := (b0.out.ext E).lt) | (go_at_call 49; refine (rNoLabel_any lb _).mono ?_; rintro e w16 ⟨rfl, E16⟩; replace E := E.trans E16; clear g0 l0 E16; have g0 := (b0.out.ext E).cells; have l0 := (b0.out.ext E).lt))
        go_ret
        exact ⟨ret_bool hr.out, E0.trans E⟩
      | true =>
        have hr : Hid ((eqI ins zI) = edK ⟨4, b, c, s, sh, lb, ins⟩) := by show _ = _; rw [edR_4, a0, a1, a2]; rfl
        go_enter Tryz.func27, Tryz.ntmps27
        go_upto_region 1 with (fail)
        generalize hW : World.alloc _ _ = W0
        obtain ⟨E0, z0, b0⟩ := boxes1 hW
        clear hW z0
        replace b0 := hid (show Blk W0 (w.heap.size) [_, _, _, _, _, _, _, _, _, _, _, _, _, _, _, _, _, _, _, _, _] _ from b0)
        have g0 := b0.out.cells
        have l0 := b0.out.lt
        have E := Ext.refl W0
        go_wp2_with (first | (go_at_call 47; refine (l09In_any _ _ _ _).mono ?_; rintro e w2 ⟨rfl, rfl⟩) | (go_at_call 48; refine (rNoShape_any sh _).mono ?_; rintro e w15 ⟨rfl, E15⟩; replace E := E.trans E15; clear g0 l0 E15; have g0 := (b0.out.ext E).cells; have l0 := (b0.out.ext E).lt) | (go_at_call 49; refine (rNoLabel_any lb _).mono ?_; rintro e w16 ⟨rfl, E16⟩; replace E := E.trans E16; clear g0 l0 E16; have g0 := (b0.out.ext E).cells; have l0 := (b0.out.ext E).lt) | (go_at_call 50; refine (rNoInstance_any ins _).mono ?_; rintro e w17 ⟨rfl, E17⟩; replace E := E.trans E17; clear g0 l0 E17; have g0 := (b0.out.ext E).cells; have l0 := (b0.out.ext E).lt))
        go_ret
        exact ⟨ret_bool hr.out, E0.trans E⟩

set_option maxRecDepth 100000 in
set_option maxHeartbeats 4000000 in
theorem rEd5 (b c : Int) (s : ByteArray) (sh : ShD) (lb : LbD) (ins : InD) (w : World) (hs1 : s.size ≤ 9223372036854775807) (hs2 : lb.s.size ≤ 9223372036854775807) (h0 : wit b 0 8 = true) (h1 : wit c 0 24 = true) :
    Calls Tryz.prog 27 #[.agg #[.int .i64 5, .int .i64 b, .int .i64 c, .string s, .int .i64 sh.a, .int .i64 sh.box.a, .int .i64 sh.box.b, .int .i64 sh.box.c, .int .i64 sh.box.d, .int .i64 lb.a, .int .i64 lb.pt.a, .int .i64 lb.pt.b, .string lb.s, .int .i64 ins.a, .int .i64 ins.tr.a, .int .i64 ins.tr.b, .int .i64 ins.tr.c, .int .i64 ins.c, .int .i64 ins.d, .int .i64 ins.e, .int .i64 ins.f]] w fun e w' => e = .returned (.bool (edK ⟨5, b, c, s, sh, lb, ins⟩)) ∧ Ext w w' := by
  have _u := And.intro hs1 hs2
  clear _u
  have hk : wit 5 1 9 = true := by decide
  cases a0 : (s.toList == []) with
  | false =>
    have hr : Hid (false = edK ⟨5, b, c, s, sh, lb, ins⟩) := by show _ = _; rw [edR_5, a0]; rfl
    have q0 : ¬ s.toList = [] := by simpa using a0
    go_enter Tryz.func27, Tryz.ntmps27
    go_upto_region 1 with (fail)
    generalize hW : World.alloc _ _ = W0
    obtain ⟨E0, z0, b0⟩ := boxes1 hW
    clear hW z0
    replace b0 := hid (show Blk W0 (w.heap.size) [_, _, _, _, _, _, _, _, _, _, _, _, _, _, _, _, _, _, _, _, _] _ from b0)
    have g0 := b0.out.cells
    have l0 := b0.out.lt
    have E := Ext.refl W0
    go_wp2_with (first | (go_at_call 47; refine (l09In_any _ _ _ _).mono ?_; rintro e w2 ⟨rfl, rfl⟩))
    go_ret
    exact ⟨ret_bool hr.out, E0.trans E⟩
  | true =>
    have q0 : s.toList = [] := by simpa using a0
    cases a1 : eqS sh zS with
    | false =>
      have hr : Hid (false = edK ⟨5, b, c, s, sh, lb, ins⟩) := by show _ = _; rw [edR_5, a0, a1]; rfl
      go_enter Tryz.func27, Tryz.ntmps27
      go_upto_region 1 with (fail)
      generalize hW : World.alloc _ _ = W0
      obtain ⟨E0, z0, b0⟩ := boxes1 hW
      clear hW z0
      replace b0 := hid (show Blk W0 (w.heap.size) [_, _, _, _, _, _, _, _, _, _, _, _, _, _, _, _, _, _, _, _, _] _ from b0)
      have g0 := b0.out.cells
      have l0 := b0.out.lt
      have E := Ext.refl W0
      go_wp2_with (first | (go_at_call 47; refine (l09In_any _ _ _ _).mono ?_; rintro e w2 ⟨rfl, rfl⟩) | (go_at_call 48; refine (rNoShape_any sh _).mono ?_; rintro e w15 ⟨rfl, E15⟩; replace E := E.trans E15; clear g0 l0 E15; have g0 := (b0.out.ext E).cells; have l0 := (b0.out.ext E).lt))
      go_ret
      exact ⟨ret_bool hr.out, E0.trans E⟩
    | true =>
      cases a2 : eqL lb zL with
      | false =>
        have hr : Hid (false = edK ⟨5, b, c, s, sh, lb, ins⟩) := by show _ = _; rw [edR_5, a0, a1, a2]; rfl
        go_enter Tryz.func27, Tryz.ntmps27
        go_upto_region 1 with (fail)
        generalize hW : World.alloc _ _ = W0
        obtain ⟨E0, z0, b0⟩ := boxes1 hW
        clear hW z0
        replace b0 := hid (show Blk W0 (w.heap.size) [_, _, _, _, _, _, _, _, _, _, _, _, _, _, _, _, _, _, _, _, _] _ from b0)
        have g0 := b0.out.cells
        have l0 := b0.out.lt
        have E := Ext.refl W0
        go_wp2_with (first | (go_at_call 47; refine (l09In_any _ _ _ _).mono ?_; rintro e w2 ⟨rfl, rfl⟩) | (go_at_call 48; refine (rNoShape_any sh _).mono ?_; rintro e w15 ⟨rfl, E15⟩; replace E := E.trans E15; clear g0 l0 E15; have g0 := (b0.out.ext E).cells; have l0 := (b0.out.ext E).lt) | (go_at_call 49; refine (rNoLabel_any lb _).mono ?_; rintro e w16 ⟨rfl, E16⟩; replace E := E.trans E16; clear g0 l0 E16; have g0 := (b0.out.ext E).cells; have l0 := (b0.out.ext E).lt))
        go_ret
        exact ⟨ret_bool hr.out, E0.trans E⟩
      | true =>
        have hr : Hid ((inB ins 8) = edK ⟨5, b, c, s, sh, lb, ins⟩) := by show _ = _; rw [edR_5, a0, a1, a2]; rfl
        go_enter Tryz.func27, Tryz.ntmps27
        go_upto_region 1 with (fail)
        generalize hW : World.alloc _ _ = W0
        obtain ⟨E0, z0, b0⟩ := boxes1 hW
        clear hW z0
        replace b0 := hid (show Blk W0 (w.heap.size) [_, _, _, _, _, _, _, _, _, _, _, _, _, _, _, _, _, _, _, _, _] _ from b0)
        have g0 := b0.out.cells
        have l0 := b0.out.lt
        have E := Ext.refl W0
        go_wp2_with (first | (go_at_call 47; refine (l09In_any _ _ _ _).mono ?_; rintro e w2 ⟨rfl, rfl⟩) | (go_at_call 48; refine (rNoShape_any sh _).mono ?_; rintro e w15 ⟨rfl, E15⟩; replace E := E.trans E15; clear g0 l0 E15; have g0 := (b0.out.ext E).cells; have l0 := (b0.out.ext E).lt) | (go_at_call 49; refine (rNoLabel_any lb _).mono ?_; rintro e w16 ⟨rfl, E16⟩; replace E := E.trans E16; clear g0 l0 E16; have g0 := (b0.out.ext E).cells; have l0 := (b0.out.ext E).lt) | (go_at_call 44; refine (rInstance_any ins 8 _ ⟨by omega, by omega⟩).mono ?_; rintro e w14 ⟨rfl, E14⟩; replace E := E.trans E14; clear g0 l0 E14; have g0 := (b0.out.ext E).cells; have l0 := (b0.out.ext E).lt))
        go_ret
        exact ⟨ret_bool hr.out, E0.trans E⟩

set_option maxRecDepth 100000 in
set_option maxHeartbeats 4000000 in
theorem rEd6 (b c : Int) (s : ByteArray) (sh : ShD) (lb : LbD) (ins : InD) (w : World) (hs1 : s.size ≤ 9223372036854775807) (hs2 : lb.s.size ≤ 9223372036854775807) (h0 : wit b 0 8 = true) (h1 : wit c 0 24 = true) :
    Calls Tryz.prog 27 #[.agg #[.int .i64 6, .int .i64 b, .int .i64 c, .string s, .int .i64 sh.a, .int .i64 sh.box.a, .int .i64 sh.box.b, .int .i64 sh.box.c, .int .i64 sh.box.d, .int .i64 lb.a, .int .i64 lb.pt.a, .int .i64 lb.pt.b, .string lb.s, .int .i64 ins.a, .int .i64 ins.tr.a, .int .i64 ins.tr.b, .int .i64 ins.tr.c, .int .i64 ins.c, .int .i64 ins.d, .int .i64 ins.e, .int .i64 ins.f]] w fun e w' => e = .returned (.bool (edK ⟨6, b, c, s, sh, lb, ins⟩)) ∧ Ext w w' := by
  have _u := And.intro hs1 hs2
  clear _u
  have hk : wit 6 1 9 = true := by decide
  cases a0 : (s.toList == []) with
  | false =>
    have hr : Hid (false = edK ⟨6, b, c, s, sh, lb, ins⟩) := by show _ = _; rw [edR_6, a0]; rfl
    have q0 : ¬ s.toList = [] := by simpa using a0
    go_enter Tryz.func27, Tryz.ntmps27
    go_upto_region 1 with (fail)
    generalize hW : World.alloc _ _ = W0
    obtain ⟨E0, z0, b0⟩ := boxes1 hW
    clear hW z0
    replace b0 := hid (show Blk W0 (w.heap.size) [_, _, _, _, _, _, _, _, _, _, _, _, _, _, _, _, _, _, _, _, _] _ from b0)
    have g0 := b0.out.cells
    have l0 := b0.out.lt
    have E := Ext.refl W0
    go_wp2_with (first | (go_at_call 47; refine (l09In_any _ _ _ _).mono ?_; rintro e w2 ⟨rfl, rfl⟩))
    go_ret
    exact ⟨ret_bool hr.out, E0.trans E⟩
  | true =>
    have q0 : s.toList = [] := by simpa using a0
    cases a1 : eqS sh zS with
    | false =>
      have hr : Hid (false = edK ⟨6, b, c, s, sh, lb, ins⟩) := by show _ = _; rw [edR_6, a0, a1]; rfl
      go_enter Tryz.func27, Tryz.ntmps27
      go_upto_region 1 with (fail)
      generalize hW : World.alloc _ _ = W0
      obtain ⟨E0, z0, b0⟩ := boxes1 hW
      clear hW z0
      replace b0 := hid (show Blk W0 (w.heap.size) [_, _, _, _, _, _, _, _, _, _, _, _, _, _, _, _, _, _, _, _, _] _ from b0)
      have g0 := b0.out.cells
      have l0 := b0.out.lt
      have E := Ext.refl W0
      go_wp2_with (first | (go_at_call 47; refine (l09In_any _ _ _ _).mono ?_; rintro e w2 ⟨rfl, rfl⟩) | (go_at_call 48; refine (rNoShape_any sh _).mono ?_; rintro e w15 ⟨rfl, E15⟩; replace E := E.trans E15; clear g0 l0 E15; have g0 := (b0.out.ext E).cells; have l0 := (b0.out.ext E).lt))
      go_ret
      exact ⟨ret_bool hr.out, E0.trans E⟩
    | true =>
      cases a2 : eqL lb zL with
      | false =>
        have hr : Hid (false = edK ⟨6, b, c, s, sh, lb, ins⟩) := by show _ = _; rw [edR_6, a0, a1, a2]; rfl
        go_enter Tryz.func27, Tryz.ntmps27
        go_upto_region 1 with (fail)
        generalize hW : World.alloc _ _ = W0
        obtain ⟨E0, z0, b0⟩ := boxes1 hW
        clear hW z0
        replace b0 := hid (show Blk W0 (w.heap.size) [_, _, _, _, _, _, _, _, _, _, _, _, _, _, _, _, _, _, _, _, _] _ from b0)
        have g0 := b0.out.cells
        have l0 := b0.out.lt
        have E := Ext.refl W0
        go_wp2_with (first | (go_at_call 47; refine (l09In_any _ _ _ _).mono ?_; rintro e w2 ⟨rfl, rfl⟩) | (go_at_call 48; refine (rNoShape_any sh _).mono ?_; rintro e w15 ⟨rfl, E15⟩; replace E := E.trans E15; clear g0 l0 E15; have g0 := (b0.out.ext E).cells; have l0 := (b0.out.ext E).lt) | (go_at_call 49; refine (rNoLabel_any lb _).mono ?_; rintro e w16 ⟨rfl, E16⟩; replace E := E.trans E16; clear g0 l0 E16; have g0 := (b0.out.ext E).cells; have l0 := (b0.out.ext E).lt))
        go_ret
        exact ⟨ret_bool hr.out, E0.trans E⟩
      | true =>
        have hr : Hid ((eqI ins zI) = edK ⟨6, b, c, s, sh, lb, ins⟩) := by show _ = _; rw [edR_6, a0, a1, a2]; rfl
        go_enter Tryz.func27, Tryz.ntmps27
        go_upto_region 1 with (fail)
        generalize hW : World.alloc _ _ = W0
        obtain ⟨E0, z0, b0⟩ := boxes1 hW
        clear hW z0
        replace b0 := hid (show Blk W0 (w.heap.size) [_, _, _, _, _, _, _, _, _, _, _, _, _, _, _, _, _, _, _, _, _] _ from b0)
        have g0 := b0.out.cells
        have l0 := b0.out.lt
        have E := Ext.refl W0
        go_wp2_with (first | (go_at_call 47; refine (l09In_any _ _ _ _).mono ?_; rintro e w2 ⟨rfl, rfl⟩) | (go_at_call 48; refine (rNoShape_any sh _).mono ?_; rintro e w15 ⟨rfl, E15⟩; replace E := E.trans E15; clear g0 l0 E15; have g0 := (b0.out.ext E).cells; have l0 := (b0.out.ext E).lt) | (go_at_call 49; refine (rNoLabel_any lb _).mono ?_; rintro e w16 ⟨rfl, E16⟩; replace E := E.trans E16; clear g0 l0 E16; have g0 := (b0.out.ext E).cells; have l0 := (b0.out.ext E).lt) | (go_at_call 50; refine (rNoInstance_any ins _).mono ?_; rintro e w17 ⟨rfl, E17⟩; replace E := E.trans E17; clear g0 l0 E17; have g0 := (b0.out.ext E).cells; have l0 := (b0.out.ext E).lt))
        go_ret
        exact ⟨ret_bool hr.out, E0.trans E⟩

set_option maxRecDepth 100000 in
set_option maxHeartbeats 4000000 in
theorem rEd7 (b c : Int) (s : ByteArray) (sh : ShD) (lb : LbD) (ins : InD) (w : World) (hs1 : s.size ≤ 9223372036854775807) (hs2 : lb.s.size ≤ 9223372036854775807) (h0 : wit b 0 8 = true) (h1 : wit c 0 24 = true) :
    Calls Tryz.prog 27 #[.agg #[.int .i64 7, .int .i64 b, .int .i64 c, .string s, .int .i64 sh.a, .int .i64 sh.box.a, .int .i64 sh.box.b, .int .i64 sh.box.c, .int .i64 sh.box.d, .int .i64 lb.a, .int .i64 lb.pt.a, .int .i64 lb.pt.b, .string lb.s, .int .i64 ins.a, .int .i64 ins.tr.a, .int .i64 ins.tr.b, .int .i64 ins.tr.c, .int .i64 ins.c, .int .i64 ins.d, .int .i64 ins.e, .int .i64 ins.f]] w fun e w' => e = .returned (.bool (edK ⟨7, b, c, s, sh, lb, ins⟩)) ∧ Ext w w' := by
  have _u := And.intro hs1 hs2
  clear _u
  have hk : wit 7 1 9 = true := by decide
  cases a0 : (c == 0) with
  | false =>
    have hr : Hid (false = edK ⟨7, b, c, s, sh, lb, ins⟩) := by show _ = _; rw [edR_7, a0]; rfl
    have q0 : ¬ c = 0 := by simpa using a0
    go_enter Tryz.func27, Tryz.ntmps27
    go_upto_region 1 with (fail)
    generalize hW : World.alloc _ _ = W0
    obtain ⟨E0, z0, b0⟩ := boxes1 hW
    clear hW z0
    replace b0 := hid (show Blk W0 (w.heap.size) [_, _, _, _, _, _, _, _, _, _, _, _, _, _, _, _, _, _, _, _, _] _ from b0)
    have g0 := b0.out.cells
    have l0 := b0.out.lt
    have E := Ext.refl W0
    go_wp2_with (first | (go_at_call 47; refine (l09In_any _ _ _ _).mono ?_; rintro e w2 ⟨rfl, rfl⟩))
    go_ret
    exact ⟨ret_bool hr.out, E0.trans E⟩
  | true =>
    have q0 : c = 0 := by simpa using a0
    cases a1 : nameB s with
    | false =>
      have hr : Hid (false = edK ⟨7, b, c, s, sh, lb, ins⟩) := by show _ = _; rw [edR_7, a0, a1]; rfl
      go_enter Tryz.func27, Tryz.ntmps27
      go_upto_region 1 with (fail)
      generalize hW : World.alloc _ _ = W0
      obtain ⟨E0, z0, b0⟩ := boxes1 hW
      clear hW z0
      replace b0 := hid (show Blk W0 (w.heap.size) [_, _, _, _, _, _, _, _, _, _, _, _, _, _, _, _, _, _, _, _, _] _ from b0)
      have g0 := b0.out.cells
      have l0 := b0.out.lt
      have E := Ext.refl W0
      go_wp2_with (first | (go_at_call 47; refine (l09In_any _ _ _ _).mono ?_; rintro e w2 ⟨rfl, rfl⟩) | (go_at_call 41; refine (rName_any s _ hs1).mono ?_; rintro e w11 ⟨rfl, E11⟩; replace E := E.trans E11; clear g0 l0 E11; have g0 := (b0.out.ext E).cells; have l0 := (b0.out.ext E).lt))
      go_ret
      exact ⟨ret_bool hr.out, E0.trans E⟩
    | true =>
      cases a2 : eqS sh zS with
      | false =>
        have hr : Hid (false = edK ⟨7, b, c, s, sh, lb, ins⟩) := by show _ = _; rw [edR_7, a0, a1, a2]; rfl
        go_enter Tryz.func27, Tryz.ntmps27
        go_upto_region 1 with (fail)
        generalize hW : World.alloc _ _ = W0
        obtain ⟨E0, z0, b0⟩ := boxes1 hW
        clear hW z0
        replace b0 := hid (show Blk W0 (w.heap.size) [_, _, _, _, _, _, _, _, _, _, _, _, _, _, _, _, _, _, _, _, _] _ from b0)
        have g0 := b0.out.cells
        have l0 := b0.out.lt
        have E := Ext.refl W0
        go_wp2_with (first | (go_at_call 47; refine (l09In_any _ _ _ _).mono ?_; rintro e w2 ⟨rfl, rfl⟩) | (go_at_call 41; refine (rName_any s _ hs1).mono ?_; rintro e w11 ⟨rfl, E11⟩; replace E := E.trans E11; clear g0 l0 E11; have g0 := (b0.out.ext E).cells; have l0 := (b0.out.ext E).lt) | (go_at_call 48; refine (rNoShape_any sh _).mono ?_; rintro e w15 ⟨rfl, E15⟩; replace E := E.trans E15; clear g0 l0 E15; have g0 := (b0.out.ext E).cells; have l0 := (b0.out.ext E).lt))
        go_ret
        exact ⟨ret_bool hr.out, E0.trans E⟩
      | true =>
        cases a3 : eqL lb zL with
        | false =>
          have hr : Hid (false = edK ⟨7, b, c, s, sh, lb, ins⟩) := by show _ = _; rw [edR_7, a0, a1, a2, a3]; rfl
          go_enter Tryz.func27, Tryz.ntmps27
          go_upto_region 1 with (fail)
          generalize hW : World.alloc _ _ = W0
          obtain ⟨E0, z0, b0⟩ := boxes1 hW
          clear hW z0
          replace b0 := hid (show Blk W0 (w.heap.size) [_, _, _, _, _, _, _, _, _, _, _, _, _, _, _, _, _, _, _, _, _] _ from b0)
          have g0 := b0.out.cells
          have l0 := b0.out.lt
          have E := Ext.refl W0
          go_wp2_with (first | (go_at_call 47; refine (l09In_any _ _ _ _).mono ?_; rintro e w2 ⟨rfl, rfl⟩) | (go_at_call 41; refine (rName_any s _ hs1).mono ?_; rintro e w11 ⟨rfl, E11⟩; replace E := E.trans E11; clear g0 l0 E11; have g0 := (b0.out.ext E).cells; have l0 := (b0.out.ext E).lt) | (go_at_call 48; refine (rNoShape_any sh _).mono ?_; rintro e w15 ⟨rfl, E15⟩; replace E := E.trans E15; clear g0 l0 E15; have g0 := (b0.out.ext E).cells; have l0 := (b0.out.ext E).lt) | (go_at_call 49; refine (rNoLabel_any lb _).mono ?_; rintro e w16 ⟨rfl, E16⟩; replace E := E.trans E16; clear g0 l0 E16; have g0 := (b0.out.ext E).cells; have l0 := (b0.out.ext E).lt))
          go_ret
          exact ⟨ret_bool hr.out, E0.trans E⟩
        | true =>
          have hr : Hid ((eqI ins zI) = edK ⟨7, b, c, s, sh, lb, ins⟩) := by show _ = _; rw [edR_7, a0, a1, a2, a3]; rfl
          go_enter Tryz.func27, Tryz.ntmps27
          go_upto_region 1 with (fail)
          generalize hW : World.alloc _ _ = W0
          obtain ⟨E0, z0, b0⟩ := boxes1 hW
          clear hW z0
          replace b0 := hid (show Blk W0 (w.heap.size) [_, _, _, _, _, _, _, _, _, _, _, _, _, _, _, _, _, _, _, _, _] _ from b0)
          have g0 := b0.out.cells
          have l0 := b0.out.lt
          have E := Ext.refl W0
          go_wp2_with (first | (go_at_call 47; refine (l09In_any _ _ _ _).mono ?_; rintro e w2 ⟨rfl, rfl⟩) | (go_at_call 41; refine (rName_any s _ hs1).mono ?_; rintro e w11 ⟨rfl, E11⟩; replace E := E.trans E11; clear g0 l0 E11; have g0 := (b0.out.ext E).cells; have l0 := (b0.out.ext E).lt) | (go_at_call 48; refine (rNoShape_any sh _).mono ?_; rintro e w15 ⟨rfl, E15⟩; replace E := E.trans E15; clear g0 l0 E15; have g0 := (b0.out.ext E).cells; have l0 := (b0.out.ext E).lt) | (go_at_call 49; refine (rNoLabel_any lb _).mono ?_; rintro e w16 ⟨rfl, E16⟩; replace E := E.trans E16; clear g0 l0 E16; have g0 := (b0.out.ext E).cells; have l0 := (b0.out.ext E).lt) | (go_at_call 50; refine (rNoInstance_any ins _).mono ?_; rintro e w17 ⟨rfl, E17⟩; replace E := E.trans E17; clear g0 l0 E17; have g0 := (b0.out.ext E).cells; have l0 := (b0.out.ext E).lt))
          go_ret
          exact ⟨ret_bool hr.out, E0.trans E⟩

set_option maxRecDepth 100000 in
set_option maxHeartbeats 4000000 in
theorem rEd8 (b c : Int) (s : ByteArray) (sh : ShD) (lb : LbD) (ins : InD) (w : World) (hs1 : s.size ≤ 9223372036854775807) (hs2 : lb.s.size ≤ 9223372036854775807) (h0 : wit b 0 8 = true) (h1 : wit c 0 24 = true) :
    Calls Tryz.prog 27 #[.agg #[.int .i64 8, .int .i64 b, .int .i64 c, .string s, .int .i64 sh.a, .int .i64 sh.box.a, .int .i64 sh.box.b, .int .i64 sh.box.c, .int .i64 sh.box.d, .int .i64 lb.a, .int .i64 lb.pt.a, .int .i64 lb.pt.b, .string lb.s, .int .i64 ins.a, .int .i64 ins.tr.a, .int .i64 ins.tr.b, .int .i64 ins.tr.c, .int .i64 ins.c, .int .i64 ins.d, .int .i64 ins.e, .int .i64 ins.f]] w fun e w' => e = .returned (.bool (edK ⟨8, b, c, s, sh, lb, ins⟩)) ∧ Ext w w' := by
  have _u := And.intro hs1 hs2
  clear _u
  have hk : wit 8 1 9 = true := by decide
  cases a0 : (c == 0) with
  | false =>
    have hr : Hid (false = edK ⟨8, b, c, s, sh, lb, ins⟩) := by show _ = _; rw [edR_8, a0]; rfl
    have q0 : ¬ c = 0 := by simpa using a0
    go_enter Tryz.func27, Tryz.ntmps27
    go_upto_region 1 with (fail)
    generalize hW : World.alloc _ _ = W0
    obtain ⟨E0, z0, b0⟩ := boxes1 hW
    clear hW z0
    replace b0 := hid (show Blk W0 (w.heap.size) [_, _, _, _, _, _, _, _, _, _, _, _, _, _, _, _, _, _, _, _, _] _ from b0)
    have g0 := b0.out.cells
    have l0 := b0.out.lt
    have E := Ext.refl W0
    go_wp2_with (first | (go_at_call 47; refine (l09In_any _ _ _ _).mono ?_; rintro e w2 ⟨rfl, rfl⟩))
    go_ret
    exact ⟨ret_bool hr.out, E0.trans E⟩
  | true =>
    have q0 : c = 0 := by simpa using a0
    cases a1 : nameB s with
    | false =>
      have hr : Hid (false = edK ⟨8, b, c, s, sh, lb, ins⟩) := by show _ = _; rw [edR_8, a0, a1]; rfl
      go_enter Tryz.func27, Tryz.ntmps27
      go_upto_region 1 with (fail)
      generalize hW : World.alloc _ _ = W0
      obtain ⟨E0, z0, b0⟩ := boxes1 hW
      clear hW z0
      replace b0 := hid (show Blk W0 (w.heap.size) [_, _, _, _, _, _, _, _, _, _, _, _, _, _, _, _, _, _, _, _, _] _ from b0)
      have g0 := b0.out.cells
      have l0 := b0.out.lt
      have E := Ext.refl W0
      go_wp2_with (first | (go_at_call 47; refine (l09In_any _ _ _ _).mono ?_; rintro e w2 ⟨rfl, rfl⟩) | (go_at_call 41; refine (rName_any s _ hs1).mono ?_; rintro e w11 ⟨rfl, E11⟩; replace E := E.trans E11; clear g0 l0 E11; have g0 := (b0.out.ext E).cells; have l0 := (b0.out.ext E).lt))
      go_ret
      exact ⟨ret_bool hr.out, E0.trans E⟩
    | true =>
      cases a2 : eqS sh zS with
      | false =>
        have hr : Hid (false = edK ⟨8, b, c, s, sh, lb, ins⟩) := by show _ = _; rw [edR_8, a0, a1, a2]; rfl
        go_enter Tryz.func27, Tryz.ntmps27
        go_upto_region 1 with (fail)
        generalize hW : World.alloc _ _ = W0
        obtain ⟨E0, z0, b0⟩ := boxes1 hW
        clear hW z0
        replace b0 := hid (show Blk W0 (w.heap.size) [_, _, _, _, _, _, _, _, _, _, _, _, _, _, _, _, _, _, _, _, _] _ from b0)
        have g0 := b0.out.cells
        have l0 := b0.out.lt
        have E := Ext.refl W0
        go_wp2_with (first | (go_at_call 47; refine (l09In_any _ _ _ _).mono ?_; rintro e w2 ⟨rfl, rfl⟩) | (go_at_call 41; refine (rName_any s _ hs1).mono ?_; rintro e w11 ⟨rfl, E11⟩; replace E := E.trans E11; clear g0 l0 E11; have g0 := (b0.out.ext E).cells; have l0 := (b0.out.ext E).lt) | (go_at_call 48; refine (rNoShape_any sh _).mono ?_; rintro e w15 ⟨rfl, E15⟩; replace E := E.trans E15; clear g0 l0 E15; have g0 := (b0.out.ext E).cells; have l0 := (b0.out.ext E).lt))
        go_ret
        exact ⟨ret_bool hr.out, E0.trans E⟩
      | true =>
        cases a3 : eqL lb zL with
        | false =>
          have hr : Hid (false = edK ⟨8, b, c, s, sh, lb, ins⟩) := by show _ = _; rw [edR_8, a0, a1, a2, a3]; rfl
          go_enter Tryz.func27, Tryz.ntmps27
          go_upto_region 1 with (fail)
          generalize hW : World.alloc _ _ = W0
          obtain ⟨E0, z0, b0⟩ := boxes1 hW
          clear hW z0
          replace b0 := hid (show Blk W0 (w.heap.size) [_, _, _, _, _, _, _, _, _, _, _, _, _, _, _, _, _, _, _, _, _] _ from b0)
          have g0 := b0.out.cells
          have l0 := b0.out.lt
          have E := Ext.refl W0
          go_wp2_with (first | (go_at_call 47; refine (l09In_any _ _ _ _).mono ?_; rintro e w2 ⟨rfl, rfl⟩) | (go_at_call 41; refine (rName_any s _ hs1).mono ?_; rintro e w11 ⟨rfl, E11⟩; replace E := E.trans E11; clear g0 l0 E11; have g0 := (b0.out.ext E).cells; have l0 := (b0.out.ext E).lt) | (go_at_call 48; refine (rNoShape_any sh _).mono ?_; rintro e w15 ⟨rfl, E15⟩; replace E := E.trans E15; clear g0 l0 E15; have g0 := (b0.out.ext E).cells; have l0 := (b0.out.ext E).lt) | (go_at_call 49; refine (rNoLabel_any lb _).mono ?_; rintro e w16 ⟨rfl, E16⟩; replace E := E.trans E16; clear g0 l0 E16; have g0 := (b0.out.ext E).cells; have l0 := (b0.out.ext E).lt))
          go_ret
          exact ⟨ret_bool hr.out, E0.trans E⟩
        | true =>
          have hr : Hid ((eqI ins zI) = edK ⟨8, b, c, s, sh, lb, ins⟩) := by show _ = _; rw [edR_8, a0, a1, a2, a3]; rfl
          go_enter Tryz.func27, Tryz.ntmps27
          go_upto_region 1 with (fail)
          generalize hW : World.alloc _ _ = W0
          obtain ⟨E0, z0, b0⟩ := boxes1 hW
          clear hW z0
          replace b0 := hid (show Blk W0 (w.heap.size) [_, _, _, _, _, _, _, _, _, _, _, _, _, _, _, _, _, _, _, _, _] _ from b0)
          have g0 := b0.out.cells
          have l0 := b0.out.lt
          have E := Ext.refl W0
          go_wp2_with (first | (go_at_call 47; refine (l09In_any _ _ _ _).mono ?_; rintro e w2 ⟨rfl, rfl⟩) | (go_at_call 41; refine (rName_any s _ hs1).mono ?_; rintro e w11 ⟨rfl, E11⟩; replace E := E.trans E11; clear g0 l0 E11; have g0 := (b0.out.ext E).cells; have l0 := (b0.out.ext E).lt) | (go_at_call 48; refine (rNoShape_any sh _).mono ?_; rintro e w15 ⟨rfl, E15⟩; replace E := E.trans E15; clear g0 l0 E15; have g0 := (b0.out.ext E).cells; have l0 := (b0.out.ext E).lt) | (go_at_call 49; refine (rNoLabel_any lb _).mono ?_; rintro e w16 ⟨rfl, E16⟩; replace E := E.trans E16; clear g0 l0 E16; have g0 := (b0.out.ext E).cells; have l0 := (b0.out.ext E).lt) | (go_at_call 50; refine (rNoInstance_any ins _).mono ?_; rintro e w17 ⟨rfl, E17⟩; replace E := E.trans E17; clear g0 l0 E17; have g0 := (b0.out.ext E).cells; have l0 := (b0.out.ext E).lt))
          go_ret
          exact ⟨ret_bool hr.out, E0.trans E⟩

set_option maxRecDepth 100000 in
set_option maxHeartbeats 4000000 in
theorem rEd9 (b c : Int) (s : ByteArray) (sh : ShD) (lb : LbD) (ins : InD) (w : World) (hs1 : s.size ≤ 9223372036854775807) (hs2 : lb.s.size ≤ 9223372036854775807) (h0 : wit b 0 8 = true) (h1 : wit c 0 24 = true) :
    Calls Tryz.prog 27 #[.agg #[.int .i64 9, .int .i64 b, .int .i64 c, .string s, .int .i64 sh.a, .int .i64 sh.box.a, .int .i64 sh.box.b, .int .i64 sh.box.c, .int .i64 sh.box.d, .int .i64 lb.a, .int .i64 lb.pt.a, .int .i64 lb.pt.b, .string lb.s, .int .i64 ins.a, .int .i64 ins.tr.a, .int .i64 ins.tr.b, .int .i64 ins.tr.c, .int .i64 ins.c, .int .i64 ins.d, .int .i64 ins.e, .int .i64 ins.f]] w fun e w' => e = .returned (.bool (edK ⟨9, b, c, s, sh, lb, ins⟩)) ∧ Ext w w' := by
  have _u := And.intro hs1 hs2
  clear _u
  have hk : wit 9 1 9 = true := by decide
  cases a0 : (c == 0) with
  | false =>
    have hr : Hid (false = edK ⟨9, b, c, s, sh, lb, ins⟩) := by show _ = _; rw [edR_9, a0]; rfl
    have q0 : ¬ c = 0 := by simpa using a0
    go_enter Tryz.func27, Tryz.ntmps27
    go_upto_region 1 with (fail)
    generalize hW : World.alloc _ _ = W0
    obtain ⟨E0, z0, b0⟩ := boxes1 hW
    clear hW z0
    replace b0 := hid (show Blk W0 (w.heap.size) [_, _, _, _, _, _, _, _, _, _, _, _, _, _, _, _, _, _, _, _, _] _ from b0)
    have g0 := b0.out.cells
    have l0 := b0.out.lt
    have E := Ext.refl W0
    go_wp2_with (first | (go_at_call 47; refine (l09In_any _ _ _ _).mono ?_; rintro e w2 ⟨rfl, rfl⟩))
    go_ret
    exact ⟨ret_bool hr.out, E0.trans E⟩
  | true =>
    have q0 : c = 0 := by simpa using a0
    cases a1 : (s.toList == []) with
    | false =>
      have hr : Hid (false = edK ⟨9, b, c, s, sh, lb, ins⟩) := by show _ = _; rw [edR_9, a0, a1]; rfl
      have q1 : ¬ s.toList = [] := by simpa using a1
      go_enter Tryz.func27, Tryz.ntmps27
      go_upto_region 1 with (fail)
      generalize hW : World.alloc _ _ = W0
      obtain ⟨E0, z0, b0⟩ := boxes1 hW
      clear hW z0
      replace b0 := hid (show Blk W0 (w.heap.size) [_, _, _, _, _, _, _, _, _, _, _, _, _, _, _, _, _, _, _, _, _] _ from b0)
      have g0 := b0.out.cells
      have l0 := b0.out.lt
      have E := Ext.refl W0
      go_wp2_with (first | (go_at_call 47; refine (l09In_any _ _ _ _).mono ?_; rintro e w2 ⟨rfl, rfl⟩))
      go_ret
      exact ⟨ret_bool hr.out, E0.trans E⟩
    | true =>
      have q1 : s.toList = [] := by simpa using a1
      cases a2 : eqS sh zS with
      | false =>
        have hr : Hid (false = edK ⟨9, b, c, s, sh, lb, ins⟩) := by show _ = _; rw [edR_9, a0, a1, a2]; rfl
        go_enter Tryz.func27, Tryz.ntmps27
        go_upto_region 1 with (fail)
        generalize hW : World.alloc _ _ = W0
        obtain ⟨E0, z0, b0⟩ := boxes1 hW
        clear hW z0
        replace b0 := hid (show Blk W0 (w.heap.size) [_, _, _, _, _, _, _, _, _, _, _, _, _, _, _, _, _, _, _, _, _] _ from b0)
        have g0 := b0.out.cells
        have l0 := b0.out.lt
        have E := Ext.refl W0
        go_wp2_with (first | (go_at_call 47; refine (l09In_any _ _ _ _).mono ?_; rintro e w2 ⟨rfl, rfl⟩) | (go_at_call 48; refine (rNoShape_any sh _).mono ?_; rintro e w15 ⟨rfl, E15⟩; replace E := E.trans E15; clear g0 l0 E15; have g0 := (b0.out.ext E).cells; have l0 := (b0.out.ext E).lt))
        go_ret
        exact ⟨ret_bool hr.out, E0.trans E⟩
      | true =>
        cases a3 : eqL lb zL with
        | false =>
          have hr : Hid (false = edK ⟨9, b, c, s, sh, lb, ins⟩) := by show _ = _; rw [edR_9, a0, a1, a2, a3]; rfl
          go_enter Tryz.func27, Tryz.ntmps27
          go_upto_region 1 with (fail)
          generalize hW : World.alloc _ _ = W0
          obtain ⟨E0, z0, b0⟩ := boxes1 hW
          clear hW z0
          replace b0 := hid (show Blk W0 (w.heap.size) [_, _, _, _, _, _, _, _, _, _, _, _, _, _, _, _, _, _, _, _, _] _ from b0)
          have g0 := b0.out.cells
          have l0 := b0.out.lt
          have E := Ext.refl W0
          go_wp2_with (first | (go_at_call 47; refine (l09In_any _ _ _ _).mono ?_; rintro e w2 ⟨rfl, rfl⟩) | (go_at_call 48; refine (rNoShape_any sh _).mono ?_; rintro e w15 ⟨rfl, E15⟩; replace E := E.trans E15; clear g0 l0 E15; have g0 := (b0.out.ext E).cells; have l0 := (b0.out.ext E).lt) | (go_at_call 49; refine (rNoLabel_any lb _).mono ?_; rintro e w16 ⟨rfl, E16⟩; replace E := E.trans E16; clear g0 l0 E16; have g0 := (b0.out.ext E).cells; have l0 := (b0.out.ext E).lt))
          go_ret
          exact ⟨ret_bool hr.out, E0.trans E⟩
        | true =>
          have hr : Hid ((eqI ins zI) = edK ⟨9, b, c, s, sh, lb, ins⟩) := by show _ = _; rw [edR_9, a0, a1, a2, a3]; rfl
          go_enter Tryz.func27, Tryz.ntmps27
          go_upto_region 1 with (fail)
          generalize hW : World.alloc _ _ = W0
          obtain ⟨E0, z0, b0⟩ := boxes1 hW
          clear hW z0
          replace b0 := hid (show Blk W0 (w.heap.size) [_, _, _, _, _, _, _, _, _, _, _, _, _, _, _, _, _, _, _, _, _] _ from b0)
          have g0 := b0.out.cells
          have l0 := b0.out.lt
          have E := Ext.refl W0
          go_wp2_with (first | (go_at_call 47; refine (l09In_any _ _ _ _).mono ?_; rintro e w2 ⟨rfl, rfl⟩) | (go_at_call 48; refine (rNoShape_any sh _).mono ?_; rintro e w15 ⟨rfl, E15⟩; replace E := E.trans E15; clear g0 l0 E15; have g0 := (b0.out.ext E).cells; have l0 := (b0.out.ext E).lt) | (go_at_call 49; refine (rNoLabel_any lb _).mono ?_; rintro e w16 ⟨rfl, E16⟩; replace E := E.trans E16; clear g0 l0 E16; have g0 := (b0.out.ext E).cells; have l0 := (b0.out.ext E).lt) | (go_at_call 50; refine (rNoInstance_any ins _).mono ?_; rintro e w17 ⟨rfl, E17⟩; replace E := E.trans E17; clear g0 l0 E17; have g0 := (b0.out.ext E).cells; have l0 := (b0.out.ext E).lt))
          go_ret
          exact ⟨ret_bool hr.out, E0.trans E⟩

theorem edK_out (a b c : Int) (s : ByteArray) (sh : ShD) (lb : LbD) (ins : InD) (h : wit a 1 9 = false) : edK ⟨a, b, c, s, sh, lb, ins⟩ = false := by
  have h' : ¬ (1 ≤ a ∧ a ≤ 9) := by intro hh; simp [wit, hh.1, hh.2] at h
  unfold edK
  rw [if_neg (show ¬ (a = 1) by omega), if_neg (show ¬ (a = 3) by omega), if_neg (show ¬ (a = 5) by omega), if_neg (show ¬ (a = 2 ∨ a = 4 ∨ a = 6) by omega), if_neg (show ¬ (a = 7 ∨ a = 8) by omega), if_neg (show ¬ (a = 9) by omega)]

set_option maxRecDepth 100000 in
set_option maxHeartbeats 4000000 in
theorem rEdit_any (a b c : Int) (s : ByteArray) (sh : ShD) (lb : LbD) (ins : InD) (w : World) (hs1 : s.size ≤ 9223372036854775807) (hs2 : lb.s.size ≤ 9223372036854775807) :
    Calls Tryz.prog 27 #[.agg #[.int .i64 a, .int .i64 b, .int .i64 c, .string s, .int .i64 sh.a, .int .i64 sh.box.a, .int .i64 sh.box.b, .int .i64 sh.box.c, .int .i64 sh.box.d, .int .i64 lb.a, .int .i64 lb.pt.a, .int .i64 lb.pt.b, .string lb.s, .int .i64 ins.a, .int .i64 ins.tr.a, .int .i64 ins.tr.b, .int .i64 ins.tr.c, .int .i64 ins.c, .int .i64 ins.d, .int .i64 ins.e, .int .i64 ins.f]] w fun e w' => e = .returned (.bool (edP ⟨a, b, c, s, sh, lb, ins⟩)) ∧ Ext w w' := by
  cases hk : wit a 1 9 with
  | false =>
    have hr : Hid (false = edP ⟨a, b, c, s, sh, lb, ins⟩) := by show _ = _; unfold edP; rw [edK_out a b c s sh lb ins hk]; simp
    go_enter Tryz.func27, Tryz.ntmps27
    go_upto_region 1 with (fail)
    generalize hW : World.alloc _ _ = W0
    obtain ⟨E0, z0, b0⟩ := boxes1 hW
    clear hW z0
    replace b0 := hid (show Blk W0 (w.heap.size) [_, _, _, _, _, _, _, _, _, _, _, _, _, _, _, _, _, _, _, _, _] _ from b0)
    have g0 := b0.out.cells
    have l0 := b0.out.lt
    have E := Ext.refl W0
    go_wp2_with (first | (go_at_call 47; refine (l09In_any _ _ _ _).mono ?_; rintro e w2 ⟨rfl, rfl⟩))
    go_ret
    exact ⟨ret_bool hr.out, E0.trans E⟩
  | true =>
    cases h0 : wit b 0 8 with
    | false =>
      have hr : Hid (false = edP ⟨a, b, c, s, sh, lb, ins⟩) := by show _ = _; unfold edP; rw [h0]; rfl
      go_enter Tryz.func27, Tryz.ntmps27
      go_upto_region 1 with (fail)
      generalize hW : World.alloc _ _ = W0
      obtain ⟨E0, z0, b0⟩ := boxes1 hW
      clear hW z0
      replace b0 := hid (show Blk W0 (w.heap.size) [_, _, _, _, _, _, _, _, _, _, _, _, _, _, _, _, _, _, _, _, _] _ from b0)
      have g0 := b0.out.cells
      have l0 := b0.out.lt
      have E := Ext.refl W0
      go_wp2_with (first | (go_at_call 47; refine (l09In_any _ _ _ _).mono ?_; rintro e w2 ⟨rfl, rfl⟩))
      go_ret
      exact ⟨ret_bool hr.out, E0.trans E⟩
    | true =>
      cases h1 : wit c 0 24 with
      | false =>
        have hr : Hid (false = edP ⟨a, b, c, s, sh, lb, ins⟩) := by show _ = _; unfold edP; rw [h0, h1]; rfl
        go_enter Tryz.func27, Tryz.ntmps27
        go_upto_region 1 with (fail)
        generalize hW : World.alloc _ _ = W0
        obtain ⟨E0, z0, b0⟩ := boxes1 hW
        clear hW z0
        replace b0 := hid (show Blk W0 (w.heap.size) [_, _, _, _, _, _, _, _, _, _, _, _, _, _, _, _, _, _, _, _, _] _ from b0)
        have g0 := b0.out.cells
        have l0 := b0.out.lt
        have E := Ext.refl W0
        go_wp2_with (first | (go_at_call 47; refine (l09In_any _ _ _ _).mono ?_; rintro e w2 ⟨rfl, rfl⟩))
        go_ret
        exact ⟨ret_bool hr.out, E0.trans E⟩
      | true =>
        rw [edP_k h0 h1]
        have h' : 1 ≤ a ∧ a ≤ 9 := by simpa [wit] using hk
        have h9 : a = 1 ∨ a = 2 ∨ a = 3 ∨ a = 4 ∨ a = 5 ∨ a = 6 ∨ a = 7 ∨ a = 8 ∨ a = 9 := by omega
        rcases h9 with rfl | rfl | rfl | rfl | rfl | rfl | rfl | rfl | rfl
        · exact rEd1 b c s sh lb ins w hs1 hs2 h0 h1
        · exact rEd2 b c s sh lb ins w hs1 hs2 h0 h1
        · exact rEd3 b c s sh lb ins w hs1 hs2 h0 h1
        · exact rEd4 b c s sh lb ins w hs1 hs2 h0 h1
        · exact rEd5 b c s sh lb ins w hs1 hs2 h0 h1
        · exact rEd6 b c s sh lb ins w hs1 hs2 h0 h1
        · exact rEd7 b c s sh lb ins w hs1 hs2 h0 h1
        · exact rEd8 b c s sh lb ins w hs1 hs2 h0 h1
        · exact rEd9 b c s sh lb ins w hs1 hs2 h0 h1

end Go.Proofs.YtncmhefendhinaaGreatDoor
