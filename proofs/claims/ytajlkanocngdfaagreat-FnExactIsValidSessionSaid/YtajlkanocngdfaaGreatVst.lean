/- Validity of transactions, histories, editors, program and reference. Condition: lengths that fit. -/
import Derived.Test.YtajlkanocngdfaaGreatVer
namespace Go.Proofs.YtajlkanocngdfaaGreat
open Go.RowKit Go.PlainAid

def tnB (l : List EdD) : Bool := decide (1 ≤ l.length) && (decide (l.length ≤ 8) && l.all edP)
def hyB (l : List (List EdD)) : Bool := decide (l.length ≤ 6) && l.all tnB
def etB (x : EtD) : Bool := libB x.cells && (hyB x.undos && hyB x.redos)

theorem pEditE (x : EdD) (w : World) (hf : FitEd x) : Calls Tryz.prog 124 #[.agg (encEd x).toArray] w fun e w' => e = .returned (.bool (edP x)) ∧ Ext w w' := by
  obtain ⟨a, b, c, s, sh, lb, ins⟩ := x
  exact pEdit_any a b c s sh lb ins w hf.1 hf.2

theorem rEditE (x : EdD) (w : World) (hf : FitEd x) : Calls Tryz.prog 105 #[.agg (encEd x).toArray] w fun e w' => e = .returned (.bool (edP x)) ∧ Ext w w' := by
  obtain ⟨a, b, c, s, sh, lb, ins⟩ := x
  exact rEdit_any a b c s sh lb ins w hf.1 hf.2

set_option maxRecDepth 100000 in
set_option maxHeartbeats 4000000 in
theorem vT1_any (x : EdD) (w : World) (hf : FitEd x) :
    Calls Tryz.prog 123 #[.agg (encEd x).toArray] w fun e w' => e = .returned (.bool (!edP x)) ∧ Ext w w' := by
  have sz2 : Hid ((Tryz.prog.info? 186).map (·.size) = some 21) := sizeD_Edit
  show Calls Tryz.prog 123 #[.agg #[.int .i64 x.a, .int .i64 x.b, .int .i64 x.c, .string x.s, .int .i64 x.sh.a, .int .i64 x.sh.box.a, .int .i64 x.sh.box.b, .int .i64 x.sh.box.c, .int .i64 x.sh.box.d, .int .i64 x.lb.a, .int .i64 x.lb.pt.a, .int .i64 x.lb.pt.b, .string x.lb.s, .int .i64 x.ins.a, .int .i64 x.ins.tr.a, .int .i64 x.ins.tr.b, .int .i64 x.ins.tr.c, .int .i64 x.ins.c, .int .i64 x.ins.d, .int .i64 x.ins.e, .int .i64 x.ins.f]] w _
  go_enter Tryz.func123, Tryz.ntmps123
  go_upto_region 1 with (fail)
  generalize hW : World.alloc _ _ = W0
  obtain ⟨E0, z0, b0⟩ := boxes1 hW
  clear hW z0
  replace b0 := hid (show Blk W0 (w.heap.size) [_, _, _, _, _, _, _, _, _, _, _, _, _, _, _, _, _, _, _, _, _] _ from b0)
  have g0 := b0.out.cells
  have l0 := b0.out.lt
  have E := Ext.refl W0
  have r0 := hid (show W0.rangeAt w.heap.size 0 (encEd x) from range_blk b0.out)
  clear g0
  go_wp2_with (first | ((with_reducible refine at_dst 3 ?_); refine wpList_load_mid (op := ⟨some 3, _, _, _, _, _⟩) rfl 186 (Operand.tmp 1) rfl w.heap.size 0 rfl (encEd x) _ r0.out Tryz.underlying186 rfl sz2.out ?_) | (go_at_call 124; refine (pEditE x _ hf).mono ?_; rintro e w3 ⟨rfl, E3⟩; replace E := E.trans E3))
  go_ret
  exact ⟨rfl, E0.trans E⟩
set_option maxRecDepth 100000 in
set_option maxHeartbeats 4000000 in
theorem pTran_any (p : Option Addr) (n c base : Nat) (l : List EdD) (w : World) (h : SlD (Fl encEd) 21 base w p n l) (hf : FitEds l) :
    Calls Tryz.prog 85 #[.slice p n c] w fun e w' => e = .returned (.bool (tnB l)) ∧ Ext w w' := by
  have hf := hid hf
  have hl := hid h.length
  by_cases m1 : n < 1
  · have z1 : ¬ ((1 : Int) ≤ n) := by omega
    have d1 : decide (1 ≤ l.length) = false := decide_eq_false (by have := hl.out; omega)
    have hr : Hid (false = tnB l) := by show _ = _; unfold tnB; rw [d1]; rfl
    clear d1
    go_enter Tryz.func85, Tryz.ntmps85
    go_wp2_with (fail)
    go_ret
    exact ⟨ret_bool hr.out, Ext.refl _⟩
  have z1 : (1 : Int) ≤ n := by omega
  have d1 : decide (1 ≤ l.length) = true := decide_eq_true (by have := hl.out; omega)
  replace d1 := hid d1
  by_cases m2 : 8 < n
  · have z2 : ¬ ((n : Int) ≤ 8) := by omega
    have d2 : decide (l.length ≤ 8) = false := decide_eq_false (by have := hl.out; omega)
    have hr : Hid (false = tnB l) := by show _ = _; unfold tnB; rw [d1.out, d2]; rfl
    clear d2
    go_enter Tryz.func85, Tryz.ntmps85
    go_wp2_with (fail)
    go_ret
    exact ⟨ret_bool hr.out, Ext.refl _⟩
  have z2 : (n : Int) ≤ 8 := by omega
  have d2 : decide (l.length ≤ 8) = true := decide_eq_true (by have := hl.out; omega)
  have hr : Hid (l.all edP = tnB l) := by show _ = _; unfold tnB; rw [d1.out, d2]; rfl
  have cf := containsFuncEditD p n c base l (fun y => !edP y) 123 #[] (enters_of Tryz.func123 (by kernel_rfl) rfl) w h (fun W y cs hE hy hcs => by cases hcs; exact vT1_any y W (hf.out.2 y hy)) (by omega)
  rw [any_no] at cf
  cases ha : l.all edP with
  | false =>
    rw [ha] at cf hr
    replace cf := hid cf
    clear d2 ha
    go_enter Tryz.func85, Tryz.ntmps85
    go_wp2_with (go_at_call 122; refine cf.out.mono ?_; rintro e w3 ⟨rfl, E3⟩)
    go_ret
    exact ⟨ret_bool hr.out, E3⟩
  | true =>
    rw [ha] at cf hr
    replace cf := hid cf
    clear d2 ha
    go_enter Tryz.func85, Tryz.ntmps85
    go_wp2_with (go_at_call 122; refine cf.out.mono ?_; rintro e w3 ⟨rfl, E3⟩)
    go_ret
    exact ⟨ret_bool hr.out, E3⟩

set_option maxRecDepth 100000 in
set_option maxHeartbeats 4000000 in
theorem vH1_any (p : Option Addr) (n c base : Nat) (l : List EdD) (w : World) (h : SlD (Fl encEd) 21 base w p n l) (hf : FitEds l) :
    Calls Tryz.prog 84 #[.slice p n c] w fun e w' => e = .returned (.bool (!tnB l)) ∧ Ext w w' := by
  go_enter Tryz.func84, Tryz.ntmps84
  go_wp2_with (go_at_call 85; refine (pTran_any p n c base l _ h hf).mono ?_; rintro e w3 ⟨rfl, E3⟩)
  go_ret
  exact ⟨rfl, E3⟩

set_option maxRecDepth 100000 in
set_option maxHeartbeats 4000000 in
theorem pHist_any (p : Option Addr) (n c base : Nat) (l : List (List EdD)) (w : World) (h : SlD (RwD (Fl encEd) 21) 1 base w p n l) (hn : n ≤ 9223372036854775807) (hf : ∀ y ∈ l, FitEds y) :
    Calls Tryz.prog 50 #[.slice p n c] w fun e w' => e = .returned (.bool (hyB l)) ∧ Ext w w' := by
  have hf := hid hf
  have hl := hid h.length
  by_cases m2 : 6 < n
  · have z2 : ¬ ((n : Int) ≤ 6) := by omega
    have d2 : decide (l.length ≤ 6) = false := decide_eq_false (by have := hl.out; omega)
    have hr : Hid (false = hyB l) := by show _ = _; unfold hyB; rw [d2]; rfl
    clear d2
    go_enter Tryz.func50, Tryz.ntmps50
    go_wp2_with (fail)
    go_ret
    exact ⟨ret_bool hr.out, Ext.refl _⟩
  have z2 : (n : Int) ≤ 6 := by omega
  have d2 : decide (l.length ≤ 6) = true := decide_eq_true (by have := hl.out; omega)
  have hr : Hid (l.all tnB = hyB l) := by show _ = _; unfold hyB; rw [d2]; rfl
  have cf := containsFuncEditSD p n c base l (fun y => !tnB y) 84 #[] (enters_of Tryz.func84 (by kernel_rfl) rfl) w h (fun W y p2 n2 c2 hE hy hs => vH1_any p2 n2 c2 base y W hs (hf.out y hy)) (by omega)
  rw [any_no] at cf
  clear d2
  cases ha : l.all tnB with
  | false =>
    rw [ha] at cf hr
    replace cf := hid cf
    clear ha
    go_enter Tryz.func50, Tryz.ntmps50
    go_wp2_with (go_at_call 83; refine cf.out.mono ?_; rintro e w3 ⟨rfl, E3⟩)
    go_ret
    exact ⟨ret_bool hr.out, E3⟩
  | true =>
    rw [ha] at cf hr
    replace cf := hid cf
    clear ha
    go_enter Tryz.func50, Tryz.ntmps50
    go_wp2_with (go_at_call 83; refine cf.out.mono ?_; rintro e w3 ⟨rfl, E3⟩)
    go_ret
    exact ⟨ret_bool hr.out, E3⟩

set_option maxRecDepth 100000 in
set_option maxHeartbeats 4000000 in
theorem rTran_any (p : Option Addr) (n c base : Nat) (l : List EdD) (w : World) (h : SlD (Fl encEd) 21 base w p n l) (hf : FitEds l) :
    Calls Tryz.prog 70 #[.slice p n c] w fun e w' => e = .returned (.bool (tnB l)) ∧ Ext w w' := by
  have hn : n ≤ 9223372036854775807 := by rw [← h.length]; exact hf.1
  have hf := hid hf
  have hl := hid h.length
  have sz2 : Hid ((Tryz.prog.info? 186).map (·.size) = some 21) := sizeD_Edit
  go_enter Tryz.func70, Tryz.ntmps70
  go_wp2_with (fail)
  go_loopw [3] (fun i wr => ∃ k : Nat, k ≤ n ∧ i = .int .i64 k ∧ Ext w wr ∧ Hid ((l.take k).all edP = true)) (fun i _ => n - (intOf i).toNat)
  case atStart => exact ⟨0, by omega, rfl, Ext.refl _, rfl⟩
  case round =>
    obtain ⟨k, hk, rfl, E, hA⟩ := hrel
    by_cases hlt : k < n
    · have hltI : (k : Int) < n := by omega
      obtain ⟨b, off, y, cs, rfl, hb, hx, hcs, hc⟩ := (h.ext okEdit E).get hlt
      obtain rfl : cs = encEd y := hcs
      have hrr := hid (show wr.rangeAt b (off + k * 21) (encEd y) from hc)
      clear hc
      have hcall := hid (rEditE y wr (hf.out.2 y (List.mem_of_getElem? hx.out)))
      cases hq : edP y with
      | false =>
        have a1 : l.all edP = false := all_no hx.out hq
        have hr : Hid (false = tnB l) := by show _ = _; unfold tnB; rw [a1]; simp
        rw [hq] at hcall
        clear hq a1
        go_wp2_with (first | (go_at_call 105; refine hcall.out.mono ?_; rintro e w4 ⟨rfl, E4⟩) | ((with_reducible refine at_dst 13 ?_); refine wpList_load_mid (op := ⟨some 13, _, _, _, _, _⟩) rfl 186 (Operand.tmp 12) rfl b (off + k * 21) rfl (encEd y) _ hrr.out Tryz.underlying186 rfl sz2.out ?_))
        go_ret
        exact ⟨ret_bool hr.out, E.trans E4⟩
      | true =>
        have hr := hid (all_snoc hA.out hx.out hq)
        rw [hq] at hcall
        clear hq
        go_wp2_with (first | (go_at_call 105; refine hcall.out.mono ?_; rintro e w4 ⟨rfl, E4⟩) | ((with_reducible refine at_dst 13 ?_); refine wpList_load_mid (op := ⟨some 13, _, _, _, _, _⟩) rfl 186 (Operand.tmp 12) rfl b (off + k * 21) rfl (encEd y) _ hrr.out Tryz.underlying186 rfl sz2.out ?_))
        go_roundw
        case rel => exact ⟨k + 1, by omega, by go_num, E.trans E4, hr⟩
        case measure => simp [intOf]; omega
    · have a1 : l.all edP = true := all_fin hA.out hl.out (by omega)
      have hr : Hid (wit n 1 8 = tnB l) := by
        show _ = _
        have := hl.out
        unfold tnB wit
        rw [a1, this]
        simp
        by_cases h1 : 1 ≤ n <;> by_cases h8 : n ≤ 8 <;> simp [h1, h8] <;> omega
      clear a1
      go_wp2_with (first | (go_at_call 106; refine (l09In_any _ _ _ _).mono ?_; rintro e w2 ⟨rfl, rfl⟩))
      go_ret
      exact ⟨ret_bool hr.out, E⟩

set_option maxRecDepth 100000 in
set_option maxHeartbeats 4000000 in
theorem rHist_any (p : Option Addr) (n c base : Nat) (l : List (List EdD)) (w : World) (h : SlD (RwD (Fl encEd) 21) 1 base w p n l) (hn : n ≤ 9223372036854775807) (hf : ∀ y ∈ l, FitEds y) :
    Calls Tryz.prog 36 #[.slice p n c] w fun e w' => e = .returned (.bool (hyB l)) ∧ Ext w w' := by
  have hf := hid hf
  have hl := hid h.length
  have sz2 : Hid ((Tryz.prog.info? 186).map (·.size) = some 21) := sizeD_Edit
  go_enter Tryz.func36, Tryz.ntmps36
  go_wp2_with (fail)
  go_loopw [3] (fun i wr => ∃ k : Nat, k ≤ n ∧ i = .int .i64 k ∧ Ext w wr ∧ Hid ((l.take k).all tnB = true)) (fun i _ => n - (intOf i).toNat)
  case atStart => exact ⟨0, by omega, rfl, Ext.refl _, rfl⟩
  case round =>
    obtain ⟨k, hk, rfl, E, hA⟩ := hrel
    by_cases hlt : k < n
    · have hltI : (k : Int) < n := by omega
      obtain ⟨b, off, y, cs, rfl, hb, hx, hcs, hc⟩ := (h.ext (RwD.ok okEdit) E).get hlt
      obtain ⟨p2, n2, c2, rfl, s2⟩ := hcs
      have y0 := hc 0 _ rfl
      rw [Nat.add_zero, Nat.mul_one] at y0
      clear hc sz2
      have hcall := hid (rTran_any p2 n2 c2 base y wr s2 (hf.out y (List.mem_of_getElem? hx.out)))
      cases hq : tnB y with
      | false =>
        have a1 : l.all tnB = false := all_no hx.out hq
        have hr : Hid (false = hyB l) := by show _ = _; unfold hyB; rw [a1]; simp
        rw [hq] at hcall
        clear hq a1
        go_wp2_with (first | (go_at_call 70; refine hcall.out.mono ?_; rintro e w4 ⟨rfl, E4⟩))
        go_ret
        exact ⟨ret_bool hr.out, E.trans E4⟩
      | true =>
        have hr := hid (all_snoc hA.out hx.out hq)
        rw [hq] at hcall
        clear hq
        go_wp2_with (first | (go_at_call 70; refine hcall.out.mono ?_; rintro e w4 ⟨rfl, E4⟩))
        go_roundw
        case rel => exact ⟨k + 1, by omega, by go_num, E.trans E4, hr⟩
        case measure => simp [intOf]; omega
    · have a1 : l.all tnB = true := all_fin hA.out hl.out (by omega)
      have hr : Hid (decide ((n : Int) ≤ 6) = hyB l) := by
        show _ = _
        have := hl.out
        unfold hyB
        rw [a1, this]
        simp
        omega
      clear a1
      go_wp2_with (fail)
      go_ret
      exact ⟨ret_bool hr.out, E⟩

set_option maxRecDepth 100000 in
set_option maxHeartbeats 4000000 in
theorem pEditor_any (x : EtD) (p1 p2 p3 : Option Addr) (n1 c1 n2 c2 n3 c3 base : Nat) (w : World) (s1 : SlD CeR 4 base w p1 n1 x.cells) (s2 : SlD (RwD (Fl encEd) 21) 1 base w p2 n2 x.undos) (s3 : SlD (RwD (Fl encEd) 21) 1 base w p3 n3 x.redos) (hf : FitEt x) :
    Calls Tryz.prog 21 #[.agg #[.slice p1 n1 c1, .slice p2 n2 c2, .slice p3 n3 c3]] w fun e w' => e = .returned (.bool (etB x)) ∧ Ext w w' := by
  obtain ⟨f1, f2, f3, f4, f5, f6⟩ := hf
  have hl1 := hid s1.length
  have hl2 := hid s2.length
  have hl3 := hid s3.length
  rw [hl1.out] at f1
  rw [hl2.out] at f3
  rw [hl3.out] at f5
  replace f2 := hid f2
  replace f4 := hid f4
  replace f6 := hid f6
  cases a0 : libB x.cells with
  | false =>
    have hr : Hid (false = etB x) := by show _ = _; unfold etB; first | (rw [a0]; done) | (rw [a0]; rfl)
    go_enter Tryz.func21, Tryz.ntmps21
    go_upto_region 1 with (fail)
    generalize hW : World.alloc _ _ = W0
    obtain ⟨E0, z0, b0⟩ := boxes1 hW
    clear hW z0
    replace b0 := hid (show Blk W0 (w.heap.size) [_, _, _] _ from b0)
    have g0 := b0.out.cells
    have l0 := b0.out.lt
    have E := Ext.refl W0
    go_wp2_with (first | (go_at_call 49; refine (pLib_any p1 n1 c1 base x.cells _ ((s1.ext CeR.ok E0).ext CeR.ok E) f1 f2.out).mono ?_; rintro e w3 ⟨rfl, E3⟩; replace E := E.trans E3; clear g0 l0 E3; have g0 := (b0.out.ext E).cells; have l0 := (b0.out.ext E).lt))
    go_ret
    exact ⟨ret_bool hr.out, E0.trans E⟩
  | true =>
    cases a1 : hyB x.undos with
    | false =>
      have hr : Hid (false = etB x) := by show _ = _; unfold etB; first | (rw [a0, a1]; done) | (rw [a0, a1]; rfl)
      go_enter Tryz.func21, Tryz.ntmps21
      go_upto_region 1 with (fail)
      generalize hW : World.alloc _ _ = W0
      obtain ⟨E0, z0, b0⟩ := boxes1 hW
      clear hW z0
      replace b0 := hid (show Blk W0 (w.heap.size) [_, _, _] _ from b0)
      have g0 := b0.out.cells
      have l0 := b0.out.lt
      have E := Ext.refl W0
      go_wp2_with (first | (go_at_call 49; refine (pLib_any p1 n1 c1 base x.cells _ ((s1.ext CeR.ok E0).ext CeR.ok E) f1 f2.out).mono ?_; rintro e w3 ⟨rfl, E3⟩; replace E := E.trans E3; clear g0 l0 E3; have g0 := (b0.out.ext E).cells; have l0 := (b0.out.ext E).lt) | (go_at_call 50; (with_reducible refine (pHist_any p2 n2 c2 base x.undos _ ((s2.ext (RwD.ok okEdit) E0).ext (RwD.ok okEdit) E) f3 f4.out).mono ?_); rintro e w4 ⟨rfl, E4⟩; replace E := E.trans E4; clear g0 l0 E4; have g0 := (b0.out.ext E).cells; have l0 := (b0.out.ext E).lt))
      go_ret
      exact ⟨ret_bool hr.out, E0.trans E⟩
    | true =>
      have hr : Hid (hyB x.redos = etB x) := by show _ = _; unfold etB; first | (rw [a0, a1]; done) | (rw [a0, a1]; rfl)
      go_enter Tryz.func21, Tryz.ntmps21
      go_upto_region 1 with (fail)
      generalize hW : World.alloc _ _ = W0
      obtain ⟨E0, z0, b0⟩ := boxes1 hW
      clear hW z0
      replace b0 := hid (show Blk W0 (w.heap.size) [_, _, _] _ from b0)
      have g0 := b0.out.cells
      have l0 := b0.out.lt
      have E := Ext.refl W0
      go_wp2_with (first | (go_at_call 49; refine (pLib_any p1 n1 c1 base x.cells _ ((s1.ext CeR.ok E0).ext CeR.ok E) f1 f2.out).mono ?_; rintro e w3 ⟨rfl, E3⟩; replace E := E.trans E3; clear g0 l0 E3; have g0 := (b0.out.ext E).cells; have l0 := (b0.out.ext E).lt) | (go_at_call 50; (with_reducible refine (pHist_any p2 n2 c2 base x.undos _ ((s2.ext (RwD.ok okEdit) E0).ext (RwD.ok okEdit) E) f3 f4.out).mono ?_); rintro e w4 ⟨rfl, E4⟩; replace E := E.trans E4; clear g0 l0 E4; have g0 := (b0.out.ext E).cells; have l0 := (b0.out.ext E).lt) | (go_at_call 50; (with_reducible refine (pHist_any p3 n3 c3 base x.redos _ ((s3.ext (RwD.ok okEdit) E0).ext (RwD.ok okEdit) E) f5 f6.out).mono ?_); rintro e w5 ⟨rfl, E5⟩; replace E := E.trans E5; clear g0 l0 E5; have g0 := (b0.out.ext E).cells; have l0 := (b0.out.ext E).lt))
      go_ret
      exact ⟨ret_bool hr.out, E0.trans E⟩
set_option maxRecDepth 100000 in
set_option maxHeartbeats 4000000 in
theorem rEditor_any (x : EtD) (p1 p2 p3 : Option Addr) (n1 c1 n2 c2 n3 c3 base : Nat) (w : World) (s1 : SlD CeR 4 base w p1 n1 x.cells) (s2 : SlD (RwD (Fl encEd) 21) 1 base w p2 n2 x.undos) (s3 : SlD (RwD (Fl encEd) 21) 1 base w p3 n3 x.redos) (hf : FitEt x) :
    Calls Tryz.prog 13 #[.agg #[.slice p1 n1 c1, .slice p2 n2 c2, .slice p3 n3 c3]] w fun e w' => e = .returned (.bool (etB x)) ∧ Ext w w' := by
  obtain ⟨f1, f2, f3, f4, f5, f6⟩ := hf
  have hl1 := hid s1.length
  have hl2 := hid s2.length
  have hl3 := hid s3.length
  rw [hl1.out] at f1
  rw [hl2.out] at f3
  rw [hl3.out] at f5
  replace f2 := hid f2
  replace f4 := hid f4
  replace f6 := hid f6
  cases a0 : libB x.cells with
  | false =>
    have hr : Hid (false = etB x) := by show _ = _; unfold etB; first | (rw [a0]; done) | (rw [a0]; rfl)
    go_enter Tryz.func13, Tryz.ntmps13
    go_upto_region 1 with (fail)
    generalize hW : World.alloc _ _ = W0
    obtain ⟨E0, z0, b0⟩ := boxes1 hW
    clear hW z0
    replace b0 := hid (show Blk W0 (w.heap.size) [_, _, _] _ from b0)
    have g0 := b0.out.cells
    have l0 := b0.out.lt
    have E := Ext.refl W0
    go_wp2_with (first | (go_at_call 35; refine (rLib_any p1 n1 c1 base x.cells _ ((s1.ext CeR.ok E0).ext CeR.ok E) f1 f2.out).mono ?_; rintro e w3 ⟨rfl, E3⟩; replace E := E.trans E3; clear g0 l0 E3; have g0 := (b0.out.ext E).cells; have l0 := (b0.out.ext E).lt))
    go_ret
    exact ⟨ret_bool hr.out, E0.trans E⟩
  | true =>
    cases a1 : hyB x.undos with
    | false =>
      have hr : Hid (false = etB x) := by show _ = _; unfold etB; first | (rw [a0, a1]; done) | (rw [a0, a1]; rfl)
      go_enter Tryz.func13, Tryz.ntmps13
      go_upto_region 1 with (fail)
      generalize hW : World.alloc _ _ = W0
      obtain ⟨E0, z0, b0⟩ := boxes1 hW
      clear hW z0
      replace b0 := hid (show Blk W0 (w.heap.size) [_, _, _] _ from b0)
      have g0 := b0.out.cells
      have l0 := b0.out.lt
      have E := Ext.refl W0
      go_wp2_with (first | (go_at_call 35; refine (rLib_any p1 n1 c1 base x.cells _ ((s1.ext CeR.ok E0).ext CeR.ok E) f1 f2.out).mono ?_; rintro e w3 ⟨rfl, E3⟩; replace E := E.trans E3; clear g0 l0 E3; have g0 := (b0.out.ext E).cells; have l0 := (b0.out.ext E).lt) | (go_at_call 36; (with_reducible refine (rHist_any p2 n2 c2 base x.undos _ ((s2.ext (RwD.ok okEdit) E0).ext (RwD.ok okEdit) E) f3 f4.out).mono ?_); rintro e w4 ⟨rfl, E4⟩; replace E := E.trans E4; clear g0 l0 E4; have g0 := (b0.out.ext E).cells; have l0 := (b0.out.ext E).lt))
      go_ret
      exact ⟨ret_bool hr.out, E0.trans E⟩
    | true =>
      have hr : Hid (hyB x.redos = etB x) := by show _ = _; unfold etB; first | (rw [a0, a1]; done) | (rw [a0, a1]; rfl)
      go_enter Tryz.func13, Tryz.ntmps13
      go_upto_region 1 with (fail)
      generalize hW : World.alloc _ _ = W0
      obtain ⟨E0, z0, b0⟩ := boxes1 hW
      clear hW z0
      replace b0 := hid (show Blk W0 (w.heap.size) [_, _, _] _ from b0)
      have g0 := b0.out.cells
      have l0 := b0.out.lt
      have E := Ext.refl W0
      go_wp2_with (first | (go_at_call 35; refine (rLib_any p1 n1 c1 base x.cells _ ((s1.ext CeR.ok E0).ext CeR.ok E) f1 f2.out).mono ?_; rintro e w3 ⟨rfl, E3⟩; replace E := E.trans E3; clear g0 l0 E3; have g0 := (b0.out.ext E).cells; have l0 := (b0.out.ext E).lt) | (go_at_call 36; (with_reducible refine (rHist_any p2 n2 c2 base x.undos _ ((s2.ext (RwD.ok okEdit) E0).ext (RwD.ok okEdit) E) f3 f4.out).mono ?_); rintro e w4 ⟨rfl, E4⟩; replace E := E.trans E4; clear g0 l0 E4; have g0 := (b0.out.ext E).cells; have l0 := (b0.out.ext E).lt) | (go_at_call 36; (with_reducible refine (rHist_any p3 n3 c3 base x.redos _ ((s3.ext (RwD.ok okEdit) E0).ext (RwD.ok okEdit) E) f5 f6.out).mono ?_); rintro e w5 ⟨rfl, E5⟩; replace E := E.trans E5; clear g0 l0 E5; have g0 := (b0.out.ext E).cells; have l0 := (b0.out.ext E).lt))
      go_ret
      exact ⟨ret_bool hr.out, E0.trans E⟩
end Go.Proofs.YtajlkanocngdfaaGreat
