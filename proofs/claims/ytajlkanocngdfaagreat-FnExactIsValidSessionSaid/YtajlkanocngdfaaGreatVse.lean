/- Validity of sessions, program and reference; the law FnExactIsValidSession returns true. Condition: lengths that fit. -/
import Derived.Test.YtajlkanocngdfaaGreatVst
import Derived.Test.YtajlkanocngdfaaGreatVdl
import Derived.Test.YtajlkanocngdfaaGreatVwv
import Derived.Test.YtajlkanocngdfaaGreatVnl
import Derived.Deep.RegionHeld3
namespace Go.Proofs.YtajlkanocngdfaaGreat
open Go.RowKit Go.PlainAid

def seB (x : SeD) : Bool := etB x.ed && (dkB x.rules && (wlB x.waivers && nlB x.nl))
theorem mem_sumD {α : Type} (f : α → Nat) {l : List α} {x : α} (h : x ∈ l) : f x ≤ sumD f l := by
  induction l with
  | nil => cases h
  | cons a l ih =>
    have e : sumD f (a :: l) = f a + sumD f l := by simp [sumD]
    rw [e]
    rcases List.mem_cons.1 h with rfl | h
    · omega
    · have := ih h; omega

set_option maxRecDepth 100000 in
set_option maxHeartbeats 4000000 in
theorem pSession_any (x : SeD) (p1 p2 p3 p4 p5 p6 p7 : Option Addr) (n1 c1 n2 c2 n3 c3 n4 n5 c5 n6 c6 n7 c7 base : Nat) (w : World) (s1 : SlD CeR 4 base w p1 n1 x.ed.cells) (s2 : SlD (RwD (Fl encEd) 21) 1 base w p2 n2 x.ed.undos) (s3 : SlD (RwD (Fl encEd) 21) 1 base w p3 n3 x.ed.redos) (s4 : SlD (Fl encRu) 5 base w p4 n4 x.rules) (s5 : SlD (Fl encWv) 2 base w p5 n5 x.waivers) (s6 : SlD DvR 4 base w p6 n6 x.nl.devs) (s7 : SlD (Fl encPo) 2 base w p7 n7 x.nl.ports) (hf : FitSe x) :
    Calls Tryz.prog 7 #[.agg #[.slice p1 n1 c1, .slice p2 n2 c2, .slice p3 n3 c3, .slice p4 n4 n4, .slice p5 n5 c5, .int .i64 x.nl.nets, .slice p6 n6 c6, .slice p7 n7 c7]] w fun e w' => e = .returned (.bool (seB x)) ∧ Ext w w' := by
  obtain ⟨f1, f2, ⟨f3, f4⟩, f5⟩ := hf
  have hl4 := hid s4.length
  have hl5 := hid s5.length
  rw [hl4.out] at f2
  rw [hl5.out] at f3
  replace f1 := hid f1
  replace f4 := hid f4
  replace f5 := hid f5
  cases a0 : etB x.ed with
  | false =>
    have hr : Hid (false = seB x) := by show _ = _; unfold seB; first | (rw [a0]; done) | (rw [a0]; rfl)
    go_enter Tryz.func7, Tryz.ntmps7
    go_upto_region 1 with (fail)
    generalize hW : World.alloc _ _ = W0
    obtain ⟨E0, z0, b0⟩ := boxes1 hW
    clear hW z0
    replace b0 := hid (show Blk W0 (w.heap.size) [_, _, _, _, _, _, _, _] _ from b0)
    have g0 := b0.out.cells
    have l0 := b0.out.lt
    have E := Ext.refl W0
    go_wp2_with (first | (go_at_call 21; refine (pEditor_any x.ed p1 p2 p3 n1 c1 n2 c2 n3 c3 base _ ((s1.ext CeR.ok E0).ext CeR.ok E) ((s2.ext (RwD.ok okEdit) E0).ext (RwD.ok okEdit) E) ((s3.ext (RwD.ok okEdit) E0).ext (RwD.ok okEdit) E) f1.out).mono ?_; rintro e w3 ⟨rfl, E3⟩; replace E := E.trans E3; clear g0 l0 E3; have g0 := (b0.out.ext E).cells; have l0 := (b0.out.ext E).lt))
    go_ret
    exact ⟨ret_bool hr.out, E0.trans E⟩
  | true =>
    cases a1 : dkB x.rules with
    | false =>
      have hr : Hid (false = seB x) := by show _ = _; unfold seB; first | (rw [a0, a1]; done) | (rw [a0, a1]; rfl)
      go_enter Tryz.func7, Tryz.ntmps7
      go_upto_region 1 with (fail)
      generalize hW : World.alloc _ _ = W0
      obtain ⟨E0, z0, b0⟩ := boxes1 hW
      clear hW z0
      replace b0 := hid (show Blk W0 (w.heap.size) [_, _, _, _, _, _, _, _] _ from b0)
      have g0 := b0.out.cells
      have l0 := b0.out.lt
      have E := Ext.refl W0
      go_wp2_with (first | (go_at_call 21; refine (pEditor_any x.ed p1 p2 p3 n1 c1 n2 c2 n3 c3 base _ ((s1.ext CeR.ok E0).ext CeR.ok E) ((s2.ext (RwD.ok okEdit) E0).ext (RwD.ok okEdit) E) ((s3.ext (RwD.ok okEdit) E0).ext (RwD.ok okEdit) E) f1.out).mono ?_; rintro e w3 ⟨rfl, E3⟩; replace E := E.trans E3; clear g0 l0 E3; have g0 := (b0.out.ext E).cells; have l0 := (b0.out.ext E).lt) | (go_at_call 22; refine (pDeck_any p4 n4 base x.rules _ ((s4.ext okRule E0).ext okRule E) f2).mono ?_; rintro e w4 ⟨rfl, E4⟩; replace E := E.trans E4; clear g0 l0 E4; have g0 := (b0.out.ext E).cells; have l0 := (b0.out.ext E).lt))
      go_ret
      exact ⟨ret_bool hr.out, E0.trans E⟩
    | true =>
      cases a2 : wlB x.waivers with
      | false =>
        have hr : Hid (false = seB x) := by show _ = _; unfold seB; first | (rw [a0, a1, a2]; done) | (rw [a0, a1, a2]; rfl)
        go_enter Tryz.func7, Tryz.ntmps7
        go_upto_region 1 with (fail)
        generalize hW : World.alloc _ _ = W0
        obtain ⟨E0, z0, b0⟩ := boxes1 hW
        clear hW z0
        replace b0 := hid (show Blk W0 (w.heap.size) [_, _, _, _, _, _, _, _] _ from b0)
        have g0 := b0.out.cells
        have l0 := b0.out.lt
        have E := Ext.refl W0
        go_wp2_with (first | (go_at_call 21; refine (pEditor_any x.ed p1 p2 p3 n1 c1 n2 c2 n3 c3 base _ ((s1.ext CeR.ok E0).ext CeR.ok E) ((s2.ext (RwD.ok okEdit) E0).ext (RwD.ok okEdit) E) ((s3.ext (RwD.ok okEdit) E0).ext (RwD.ok okEdit) E) f1.out).mono ?_; rintro e w3 ⟨rfl, E3⟩; replace E := E.trans E3; clear g0 l0 E3; have g0 := (b0.out.ext E).cells; have l0 := (b0.out.ext E).lt) | (go_at_call 22; refine (pDeck_any p4 n4 base x.rules _ ((s4.ext okRule E0).ext okRule E) f2).mono ?_; rintro e w4 ⟨rfl, E4⟩; replace E := E.trans E4; clear g0 l0 E4; have g0 := (b0.out.ext E).cells; have l0 := (b0.out.ext E).lt) | (go_at_call 23; refine (pWaivers_any p5 n5 c5 base x.waivers _ ((s5.ext okWaiver E0).ext okWaiver E) f3 f4.out).mono ?_; rintro e w5 ⟨rfl, E5⟩; replace E := E.trans E5; clear g0 l0 E5; have g0 := (b0.out.ext E).cells; have l0 := (b0.out.ext E).lt))
        go_ret
        exact ⟨ret_bool hr.out, E0.trans E⟩
      | true =>
        have hr : Hid (nlB x.nl = seB x) := by show _ = _; unfold seB; first | (rw [a0, a1, a2]; done) | (rw [a0, a1, a2]; rfl)
        go_enter Tryz.func7, Tryz.ntmps7
        go_upto_region 1 with (fail)
        generalize hW : World.alloc _ _ = W0
        obtain ⟨E0, z0, b0⟩ := boxes1 hW
        clear hW z0
        replace b0 := hid (show Blk W0 (w.heap.size) [_, _, _, _, _, _, _, _] _ from b0)
        have g0 := b0.out.cells
        have l0 := b0.out.lt
        have E := Ext.refl W0
        go_wp2_with (first | (go_at_call 21; refine (pEditor_any x.ed p1 p2 p3 n1 c1 n2 c2 n3 c3 base _ ((s1.ext CeR.ok E0).ext CeR.ok E) ((s2.ext (RwD.ok okEdit) E0).ext (RwD.ok okEdit) E) ((s3.ext (RwD.ok okEdit) E0).ext (RwD.ok okEdit) E) f1.out).mono ?_; rintro e w3 ⟨rfl, E3⟩; replace E := E.trans E3; clear g0 l0 E3; have g0 := (b0.out.ext E).cells; have l0 := (b0.out.ext E).lt) | (go_at_call 22; refine (pDeck_any p4 n4 base x.rules _ ((s4.ext okRule E0).ext okRule E) f2).mono ?_; rintro e w4 ⟨rfl, E4⟩; replace E := E.trans E4; clear g0 l0 E4; have g0 := (b0.out.ext E).cells; have l0 := (b0.out.ext E).lt) | (go_at_call 23; refine (pWaivers_any p5 n5 c5 base x.waivers _ ((s5.ext okWaiver E0).ext okWaiver E) f3 f4.out).mono ?_; rintro e w5 ⟨rfl, E5⟩; replace E := E.trans E5; clear g0 l0 E5; have g0 := (b0.out.ext E).cells; have l0 := (b0.out.ext E).lt) | (go_at_call 24; refine (pNetlist_any x.nl.nets x.nl.devs x.nl.ports p6 p7 n6 c6 n7 c7 base _ ((s6.ext DvR.ok E0).ext DvR.ok E) ((s7.ext okPort E0).ext okPort E) f5.out).mono ?_; rintro e w6 ⟨rfl, E6⟩; replace E := E.trans E6; clear g0 l0 E6; have g0 := (b0.out.ext E).cells; have l0 := (b0.out.ext E).lt))
        go_ret
        exact ⟨ret_bool hr.out, E0.trans E⟩
set_option maxRecDepth 100000 in
set_option maxHeartbeats 4000000 in
theorem rSession_any (x : SeD) (p1 p2 p3 p4 p5 p6 p7 : Option Addr) (n1 c1 n2 c2 n3 c3 n4 n5 c5 n6 c6 n7 c7 base : Nat) (w : World) (s1 : SlD CeR 4 base w p1 n1 x.ed.cells) (s2 : SlD (RwD (Fl encEd) 21) 1 base w p2 n2 x.ed.undos) (s3 : SlD (RwD (Fl encEd) 21) 1 base w p3 n3 x.ed.redos) (s4 : SlD (Fl encRu) 5 base w p4 n4 x.rules) (s5 : SlD (Fl encWv) 2 base w p5 n5 x.waivers) (s6 : SlD DvR 4 base w p6 n6 x.nl.devs) (s7 : SlD (Fl encPo) 2 base w p7 n7 x.nl.ports) (hf : FitSe x) :
    Calls Tryz.prog 5 #[.agg #[.slice p1 n1 c1, .slice p2 n2 c2, .slice p3 n3 c3, .slice p4 n4 n4, .slice p5 n5 c5, .int .i64 x.nl.nets, .slice p6 n6 c6, .slice p7 n7 c7]] w fun e w' => e = .returned (.bool (seB x)) ∧ Ext w w' := by
  obtain ⟨f1, f2, ⟨f3, f4⟩, f5⟩ := hf
  have hl4 := hid s4.length
  have hl5 := hid s5.length
  rw [hl4.out] at f2
  rw [hl5.out] at f3
  replace f1 := hid f1
  replace f4 := hid f4
  replace f5 := hid f5
  cases a0 : etB x.ed with
  | false =>
    have hr : Hid (false = seB x) := by show _ = _; unfold seB; first | (rw [a0]; done) | (rw [a0]; rfl)
    go_enter Tryz.func5, Tryz.ntmps5
    go_upto_region 1 with (fail)
    generalize hW : World.alloc _ _ = W0
    obtain ⟨E0, z0, b0⟩ := boxes1 hW
    clear hW z0
    replace b0 := hid (show Blk W0 (w.heap.size) [_, _, _, _, _, _, _, _] _ from b0)
    have g0 := b0.out.cells
    have l0 := b0.out.lt
    have E := Ext.refl W0
    go_wp2_with (first | (go_at_call 13; refine (rEditor_any x.ed p1 p2 p3 n1 c1 n2 c2 n3 c3 base _ ((s1.ext CeR.ok E0).ext CeR.ok E) ((s2.ext (RwD.ok okEdit) E0).ext (RwD.ok okEdit) E) ((s3.ext (RwD.ok okEdit) E0).ext (RwD.ok okEdit) E) f1.out).mono ?_; rintro e w3 ⟨rfl, E3⟩; replace E := E.trans E3; clear g0 l0 E3; have g0 := (b0.out.ext E).cells; have l0 := (b0.out.ext E).lt))
    go_ret
    exact ⟨ret_bool hr.out, E0.trans E⟩
  | true =>
    cases a1 : dkB x.rules with
    | false =>
      have hr : Hid (false = seB x) := by show _ = _; unfold seB; first | (rw [a0, a1]; done) | (rw [a0, a1]; rfl)
      go_enter Tryz.func5, Tryz.ntmps5
      go_upto_region 1 with (fail)
      generalize hW : World.alloc _ _ = W0
      obtain ⟨E0, z0, b0⟩ := boxes1 hW
      clear hW z0
      replace b0 := hid (show Blk W0 (w.heap.size) [_, _, _, _, _, _, _, _] _ from b0)
      have g0 := b0.out.cells
      have l0 := b0.out.lt
      have E := Ext.refl W0
      go_wp2_with (first | (go_at_call 13; refine (rEditor_any x.ed p1 p2 p3 n1 c1 n2 c2 n3 c3 base _ ((s1.ext CeR.ok E0).ext CeR.ok E) ((s2.ext (RwD.ok okEdit) E0).ext (RwD.ok okEdit) E) ((s3.ext (RwD.ok okEdit) E0).ext (RwD.ok okEdit) E) f1.out).mono ?_; rintro e w3 ⟨rfl, E3⟩; replace E := E.trans E3; clear g0 l0 E3; have g0 := (b0.out.ext E).cells; have l0 := (b0.out.ext E).lt) | (go_at_call 14; refine (rDeck_any p4 n4 base x.rules _ ((s4.ext okRule E0).ext okRule E) f2).mono ?_; rintro e w4 ⟨rfl, E4⟩; replace E := E.trans E4; clear g0 l0 E4; have g0 := (b0.out.ext E).cells; have l0 := (b0.out.ext E).lt))
      go_ret
      exact ⟨ret_bool hr.out, E0.trans E⟩
    | true =>
      cases a2 : wlB x.waivers with
      | false =>
        have hr : Hid (false = seB x) := by show _ = _; unfold seB; first | (rw [a0, a1, a2]; done) | (rw [a0, a1, a2]; rfl)
        go_enter Tryz.func5, Tryz.ntmps5
        go_upto_region 1 with (fail)
        generalize hW : World.alloc _ _ = W0
        obtain ⟨E0, z0, b0⟩ := boxes1 hW
        clear hW z0
        replace b0 := hid (show Blk W0 (w.heap.size) [_, _, _, _, _, _, _, _] _ from b0)
        have g0 := b0.out.cells
        have l0 := b0.out.lt
        have E := Ext.refl W0
        go_wp2_with (first | (go_at_call 13; refine (rEditor_any x.ed p1 p2 p3 n1 c1 n2 c2 n3 c3 base _ ((s1.ext CeR.ok E0).ext CeR.ok E) ((s2.ext (RwD.ok okEdit) E0).ext (RwD.ok okEdit) E) ((s3.ext (RwD.ok okEdit) E0).ext (RwD.ok okEdit) E) f1.out).mono ?_; rintro e w3 ⟨rfl, E3⟩; replace E := E.trans E3; clear g0 l0 E3; have g0 := (b0.out.ext E).cells; have l0 := (b0.out.ext E).lt) | (go_at_call 14; refine (rDeck_any p4 n4 base x.rules _ ((s4.ext okRule E0).ext okRule E) f2).mono ?_; rintro e w4 ⟨rfl, E4⟩; replace E := E.trans E4; clear g0 l0 E4; have g0 := (b0.out.ext E).cells; have l0 := (b0.out.ext E).lt) | (go_at_call 15; refine (rWaivers_any p5 n5 c5 base x.waivers _ ((s5.ext okWaiver E0).ext okWaiver E) f3 f4.out).mono ?_; rintro e w5 ⟨rfl, E5⟩; replace E := E.trans E5; clear g0 l0 E5; have g0 := (b0.out.ext E).cells; have l0 := (b0.out.ext E).lt))
        go_ret
        exact ⟨ret_bool hr.out, E0.trans E⟩
      | true =>
        have hr : Hid (nlB x.nl = seB x) := by show _ = _; unfold seB; first | (rw [a0, a1, a2]; done) | (rw [a0, a1, a2]; rfl)
        go_enter Tryz.func5, Tryz.ntmps5
        go_upto_region 1 with (fail)
        generalize hW : World.alloc _ _ = W0
        obtain ⟨E0, z0, b0⟩ := boxes1 hW
        clear hW z0
        replace b0 := hid (show Blk W0 (w.heap.size) [_, _, _, _, _, _, _, _] _ from b0)
        have g0 := b0.out.cells
        have l0 := b0.out.lt
        have E := Ext.refl W0
        go_wp2_with (first | (go_at_call 13; refine (rEditor_any x.ed p1 p2 p3 n1 c1 n2 c2 n3 c3 base _ ((s1.ext CeR.ok E0).ext CeR.ok E) ((s2.ext (RwD.ok okEdit) E0).ext (RwD.ok okEdit) E) ((s3.ext (RwD.ok okEdit) E0).ext (RwD.ok okEdit) E) f1.out).mono ?_; rintro e w3 ⟨rfl, E3⟩; replace E := E.trans E3; clear g0 l0 E3; have g0 := (b0.out.ext E).cells; have l0 := (b0.out.ext E).lt) | (go_at_call 14; refine (rDeck_any p4 n4 base x.rules _ ((s4.ext okRule E0).ext okRule E) f2).mono ?_; rintro e w4 ⟨rfl, E4⟩; replace E := E.trans E4; clear g0 l0 E4; have g0 := (b0.out.ext E).cells; have l0 := (b0.out.ext E).lt) | (go_at_call 15; refine (rWaivers_any p5 n5 c5 base x.waivers _ ((s5.ext okWaiver E0).ext okWaiver E) f3 f4.out).mono ?_; rintro e w5 ⟨rfl, E5⟩; replace E := E.trans E5; clear g0 l0 E5; have g0 := (b0.out.ext E).cells; have l0 := (b0.out.ext E).lt) | (go_at_call 16; refine (rNetlist_any x.nl.nets x.nl.devs x.nl.ports p6 p7 n6 c6 n7 c7 base _ ((s6.ext DvR.ok E0).ext DvR.ok E) ((s7.ext okPort E0).ext okPort E) f5.out).mono ?_; rintro e w6 ⟨rfl, E6⟩; replace E := E.trans E6; clear g0 l0 E6; have g0 := (b0.out.ext E).cells; have l0 := (b0.out.ext E).lt))
        go_ret
        exact ⟨ret_bool hr.out, E0.trans E⟩
set_option maxRecDepth 100000 in
set_option maxHeartbeats 4000000 in
theorem exactIsValidSession_any (x : SeD) (p1 p2 p3 p4 p5 p6 p7 : Option Addr) (n1 c1 n2 c2 n3 c3 n4 c4 n5 c5 n6 c6 n7 c7 base : Nat) (w : World) (s1 : SlD CeR 4 base w p1 n1 x.ed.cells) (s2 : SlD (RwD (Fl encEd) 21) 1 base w p2 n2 x.ed.undos) (s3 : SlD (RwD (Fl encEd) 21) 1 base w p3 n3 x.ed.redos) (s4 : SlD (Fl encRu) 5 base w p4 n4 x.rules) (s5 : SlD (Fl encWv) 2 base w p5 n5 x.waivers) (s6 : SlD DvR 4 base w p6 n6 x.nl.devs) (s7 : SlD (Fl encPo) 2 base w p7 n7 x.nl.ports) (hf : FitSe x) :
    Calls Tryz.prog 3 #[.agg #[.slice p1 n1 c1, .slice p2 n2 c2, .slice p3 n3 c3, .slice p4 n4 c4, .slice p5 n5 c5, .int .i64 x.nl.nets, .slice p6 n6 c6, .slice p7 n7 c7]] w fun e w' => e = .returned (.bool true) ∧ Ext w w' := by
  have hfs := hid hf
  obtain ⟨⟨k1, i1, k2, i2, k3, i3⟩, k4, ⟨k5, i5⟩, k6, i6, k7, i7⟩ := hf
  have hl1 := hid s1.length
  rw [hl1.out] at k1
  have hl2 := hid s2.length
  rw [hl2.out] at k2
  have hl3 := hid s3.length
  rw [hl3.out] at k3
  have hl4 := hid s4.length
  rw [hl4.out] at k4
  have hl5 := hid s5.length
  rw [hl5.out] at k5
  have hl6 := hid s6.length
  rw [hl6.out] at k6
  have hl7 := hid s7.length
  rw [hl7.out] at k7
  by_cases hT : (1048576 : Int) < (seT x : Nat)
  · have hv : lessD 1048576 (seT x : Nat) = -1 := by rw [lessD, if_pos hT]
    go_enter Tryz.func3, Tryz.ntmps3
    go_upto_region 1 with (fail)
    generalize hW : World.alloc _ _ = W0
    obtain ⟨E0, z0, b0⟩ := boxes1 hW
    clear hW z0
    replace b0 := hid (show Blk W0 (w.heap.size) [_, _, _, _, _, _, _, _] _ from b0)
    have g0 := b0.out.cells
    have l0 := b0.out.lt
    have E := Ext.refl W0
    have hsz := szSessionD_any x p1 p2 p3 p4 p5 p6 p7 n1 c1 n2 c2 n3 c3 n4 c4 n5 c5 n6 c6 n7 c7 base 1048576 W0 (by omega) (by omega) (s1.ext CeR.ok E0) k1 i1 (s2.ext (RwD.ok okEdit) E0) k2 i2 (s3.ext (RwD.ok okEdit) E0) k3 i3 hl4.out k4 (s5.ext okWaiver E0) k5 i5 (s6.ext DvR.ok E0) k6 i6 (s7.ext okPort E0) k7 i7
    rw [hv] at hsz
    replace hsz := hid hsz
    go_wp2_with (go_at_call 4; refine hsz.out.mono ?_; rintro e w1 ⟨rfl, E1⟩; replace E := E.trans E1; clear g0 l0 E1; have g0 := (b0.out.ext E).cells; have l0 := (b0.out.ext E).lt)
    go_ret
    exact ⟨rfl, E0.trans E⟩
  have hv : lessD 1048576 (seT x : Nat) = 1048576 - (seT x : Nat) := by rw [lessD, if_neg hT]
  have hT2 : seT x ≤ 1048576 := by omega
  unfold seT etT nlT cesT edssT wvsT dvsT posT at hT2
  have m1 : n1 ≤ 1048576 ∧ ∀ y ∈ x.ed.cells, y.shs.length ≤ 1048576 ∧ y.lbs.length ≤ 1048576 ∧ y.ins.length ≤ 1048576 := by
    refine ⟨by have := hl1.out; omega, fun y hy => ?_⟩
    have h1 := mem_sumD ceT hy
    unfold ceT lbsT at h1
    unfold ceT lbsT at hT2
    refine ⟨?_, ?_, ?_⟩ <;> omega
  have m2 : n2 ≤ 1048576 ∧ ∀ y ∈ x.ed.undos, y.length ≤ 1048576 := by
    refine ⟨by have := hl2.out; omega, fun y hy => ?_⟩
    have h1 := mem_sumD edsT hy
    unfold edsT at h1 hT2
    omega
  have m3 : n3 ≤ 1048576 ∧ ∀ y ∈ x.ed.redos, y.length ≤ 1048576 := by
    refine ⟨by have := hl3.out; omega, fun y hy => ?_⟩
    have h1 := mem_sumD edsT hy
    unfold edsT at h1 hT2
    omega
  have m4 : n4 ≤ 1048576 := by have := hl4.out; omega
  have m5 : n5 ≤ 1048576 := by have := hl5.out; omega
  have m6 : n6 ≤ 1048576 ∧ ∀ y ∈ x.nl.devs, y.pins.length ≤ 1048576 := by
    refine ⟨by have := hl6.out; omega, fun y hy => ?_⟩
    have h1 := mem_sumD dvT hy
    unfold dvT at h1 hT2
    omega
  have m7 : n7 ≤ 1048576 := by have := hl7.out; omega
  obtain ⟨L, hL⟩ : ∃ L : Int, L = 1048576 - (seT x : Nat) := ⟨_, rfl⟩
  have hL0 : 0 ≤ L := by omega
  rw [← hL] at hv
  clear hT hT2 hL
  go_enter Tryz.func3, Tryz.ntmps3
  go_upto_region 1 with (fail)
  generalize hW : World.alloc _ _ = W0
  obtain ⟨E0, z0, b0⟩ := boxes1 hW
  clear hW z0
  replace b0 := hid (show Blk W0 (w.heap.size) [_, _, _, _, _, _, _, _] _ from b0)
  have g0 := b0.out.cells
  have l0 := b0.out.lt
  have E := Ext.refl W0
  have hsz := szSessionD_any x p1 p2 p3 p4 p5 p6 p7 n1 c1 n2 c2 n3 c3 n4 c4 n5 c5 n6 c6 n7 c7 base 1048576 W0 (by omega) (by omega) (s1.ext CeR.ok E0) k1 i1 (s2.ext (RwD.ok okEdit) E0) k2 i2 (s3.ext (RwD.ok okEdit) E0) k3 i3 hl4.out k4 (s5.ext okWaiver E0) k5 i5 (s6.ext DvR.ok E0) k6 i6 (s7.ext okPort E0) k7 i7
  rw [hv] at hsz
  replace hsz := hid hsz
  clear i1 i2 i3 i5 i6 i7 hv
  go_wp2_with (go_at_call 4; refine hsz.out.mono ?_; rintro e w1 ⟨rfl, E1⟩; replace E := E.trans E1; clear g0 l0 E1; have g0 := (b0.out.ext E).cells; have l0 := (b0.out.ext E).lt)
  clear hsz
  refine (toSessionD_any x p1 p2 p3 p4 p5 p6 p7 n1 c1 n2 c2 n3 c3 n4 c4 n5 c5 n6 c6 n7 c7 base _ ((s1.ext CeR.ok E0).ext CeR.ok E) m1 ((s2.ext (RwD.ok okEdit) E0).ext (RwD.ok okEdit) E) m2 ((s3.ext (RwD.ok okEdit) E0).ext (RwD.ok okEdit) E) m3 ((s4.ext okRule E0).ext okRule E) m4 ((s5.ext okWaiver E0).ext okWaiver E) m5 ((s6.ext DvR.ok E0).ext DvR.ok E) m6 ((s7.ext okPort E0).ext okPort E) m7).mono ?_
  rintro e w2 ⟨q1, q2, q3, q4, q5, q6, q7, rfl, t1, t2, t3, t4, t5, t6, t7, E2⟩
  replace E := E.trans E2
  clear g0 l0
  have g0 := (b0.out.ext E).cells
  have l0 := (b0.out.ext E).lt
  go_wp2_with (fail)
  refine (rSession_any x q1 q2 q3 q4 q5 q6 q7 n1 n1 n2 n2 n3 n3 n4 n5 n5 n6 n6 n7 n7 w1.heap.size _ t1 t2 t3 t4 t5 t6 t7 hfs.out).mono ?_
  rintro e w3 ⟨rfl, E3⟩
  replace E := E.trans E3
  clear g0 l0 E2 E3 t1 t2 t3 t4 t5 t6 t7
  have g0 := (b0.out.ext E).cells
  have l0 := (b0.out.ext E).lt
  go_wp2_with (fail)
  refine (toSessionD_any x p1 p2 p3 p4 p5 p6 p7 n1 c1 n2 c2 n3 c3 n4 c4 n5 c5 n6 c6 n7 c7 base _ ((s1.ext CeR.ok E0).ext CeR.ok E) m1 ((s2.ext (RwD.ok okEdit) E0).ext (RwD.ok okEdit) E) m2 ((s3.ext (RwD.ok okEdit) E0).ext (RwD.ok okEdit) E) m3 ((s4.ext okRule E0).ext okRule E) m4 ((s5.ext okWaiver E0).ext okWaiver E) m5 ((s6.ext DvR.ok E0).ext DvR.ok E) m6 ((s7.ext okPort E0).ext okPort E) m7).mono ?_
  rintro e w4 ⟨r1, r2, r3, r4, r5, r6, r7, rfl, t1, t2, t3, t4, t5, t6, t7, E4⟩
  replace E := E.trans E4
  clear g0 l0 E4
  have g0 := (b0.out.ext E).cells
  have l0 := (b0.out.ext E).lt
  go_upto_region 7 with (fail)
  generalize hV : World.alloc _ _ = W5
  obtain ⟨E5, z5, b5⟩ := boxes1 hV
  clear hV z5
  replace b5 := hid (show Blk W5 w4.heap.size [_, _, _, _, _, _, _, _] _ from b5)
  replace E := E.trans E5
  have G := hid E5
  clear g0 l0 E5
  have g0 := (b0.out.ext E).cells
  have l0 := (b0.out.ext E).lt
  have g5 := b5.out.cells
  have l5 := b5.out.lt
  go_wp2_with (fail)
  refine (pSession_any x r1 r2 r3 r4 r5 r6 r7 n1 n1 n2 n2 n3 n3 n4 n5 n5 n6 n6 n7 n7 w3.heap.size _ (t1.ext CeR.ok G.out) (t2.ext (RwD.ok okEdit) G.out) (t3.ext (RwD.ok okEdit) G.out) (t4.ext okRule G.out) (t5.ext okWaiver G.out) (t6.ext DvR.ok G.out) (t7.ext okPort G.out) hfs.out).mono ?_
  rintro e w6 ⟨rfl, E6⟩
  replace E := E.trans E6
  replace G := hid (G.out.trans E6)
  replace b5 := hid (b5.out.ext E6)
  clear g0 l0 g5 l5 E6
  have g0 := (b0.out.ext E).cells
  have l0 := (b0.out.ext E).lt
  have g5 := b5.out.cells
  have l5 := b5.out.lt
  go_wp2_with (fail)
  have keep : Hid (∀ W, Ext w6 W → W.cell? ⟨w4.heap.size, 0, none⟩ = some (.slice r1 n1 n1) ∧ W.cell? ⟨w4.heap.size, 1, none⟩ = some (.slice r2 n2 n2) ∧ W.cell? ⟨w4.heap.size, 2, none⟩ = some (.slice r3 n3 n3) ∧ W.cell? ⟨w4.heap.size, 3, none⟩ = some (.slice r4 n4 n4) ∧ W.cell? ⟨w4.heap.size, 4, none⟩ = some (.slice r5 n5 n5) ∧ W.cell? ⟨w4.heap.size, 5, none⟩ = some (.int .i64 x.nl.nets) ∧ W.cell? ⟨w4.heap.size, 6, none⟩ = some (.slice r6 n6 n6) ∧ W.cell? ⟨w4.heap.size, 7, none⟩ = some (.slice r7 n7 n7) ∧ W.cell? ⟨w.heap.size, 0, none⟩ = some (.slice p1 n1 c1) ∧ W.cell? ⟨w.heap.size, 1, none⟩ = some (.slice p2 n2 c2) ∧ W.cell? ⟨w.heap.size, 2, none⟩ = some (.slice p3 n3 c3) ∧ W.cell? ⟨w.heap.size, 3, none⟩ = some (.slice p4 n4 c4) ∧ W.cell? ⟨w.heap.size, 4, none⟩ = some (.slice p5 n5 c5) ∧ W.cell? ⟨w.heap.size, 5, none⟩ = some (.int .i64 x.nl.nets) ∧ W.cell? ⟨w.heap.size, 6, none⟩ = some (.slice p6 n6 c6) ∧ W.cell? ⟨w.heap.size, 7, none⟩ = some (.slice p7 n7 c7)) := fun W hW =>
    have h5 := (b5.out.ext hW).cells
    have h0 := (b0.out.ext (E.trans hW)).cells
    ⟨h5 0, h5 1, h5 2, h5 3, h5 4, h5 5, h5 6, h5 7, h0 0, h0 1, h0 2, h0 3, h0 4, h0 5, h0 6, h0 7⟩
  clear g5 l5 g0 l0
  have H : Ext w6 _ := (Ext.refl w6).drew
  go_region_held3 (fun W => W.cell? ⟨w4.heap.size, 0, none⟩ = some (.slice r1 n1 n1) ∧ W.cell? ⟨w4.heap.size, 1, none⟩ = some (.slice r2 n2 n2) ∧ W.cell? ⟨w4.heap.size, 2, none⟩ = some (.slice r3 n3 n3) ∧ W.cell? ⟨w4.heap.size, 3, none⟩ = some (.slice r4 n4 n4) ∧ W.cell? ⟨w4.heap.size, 4, none⟩ = some (.slice r5 n5 n5) ∧ W.cell? ⟨w4.heap.size, 5, none⟩ = some (.int .i64 x.nl.nets) ∧ W.cell? ⟨w4.heap.size, 6, none⟩ = some (.slice r6 n6 n6) ∧ W.cell? ⟨w4.heap.size, 7, none⟩ = some (.slice r7 n7 n7) ∧ W.cell? ⟨w.heap.size, 0, none⟩ = some (.slice p1 n1 c1) ∧ W.cell? ⟨w.heap.size, 1, none⟩ = some (.slice p2 n2 c2) ∧ W.cell? ⟨w.heap.size, 2, none⟩ = some (.slice p3 n3 c3) ∧ W.cell? ⟨w.heap.size, 3, none⟩ = some (.slice p4 n4 c4) ∧ W.cell? ⟨w.heap.size, 4, none⟩ = some (.slice p5 n5 c5) ∧ W.cell? ⟨w.heap.size, 5, none⟩ = some (.int .i64 x.nl.nets) ∧ W.cell? ⟨w.heap.size, 6, none⟩ = some (.slice p6 n6 c6) ∧ W.cell? ⟨w.heap.size, 7, none⟩ = some (.slice p7 n7 c7))
    (exact keep.out _ H)
    (first
      | (go_at_call 6; refine (toSessionD_any x p1 p2 p3 p4 p5 p6 p7 n1 c1 n2 c2 n3 c3 n4 c4 n5 c5 n6 c6 n7 c7 base _ ((s1.ext CeR.ok E0).ext CeR.ok (E.trans H)) m1 ((s2.ext (RwD.ok okEdit) E0).ext (RwD.ok okEdit) (E.trans H)) m2 ((s3.ext (RwD.ok okEdit) E0).ext (RwD.ok okEdit) (E.trans H)) m3 ((s4.ext okRule E0).ext okRule (E.trans H)) m4 ((s5.ext okWaiver E0).ext okWaiver (E.trans H)) m5 ((s6.ext DvR.ok E0).ext DvR.ok (E.trans H)) m6 ((s7.ext okPort E0).ext okPort (E.trans H)) m7).mono ?_; rintro e w8 ⟨u1, u2, u3, u4, u5, u6, u7, rfl, v1, v2, v3, v4, v5, v6, v7, E8⟩; have H0 := H.trans E8; clear H; have H := H0; clear H0)
      | (go_at_call 8; refine (eqSessionD_any x r1 u1 r2 u2 r3 u3 r4 u4 r5 u5 r6 u6 r7 u7 n1 n1 n1 n2 n2 n2 n3 n3 n3 n4 n4 n4 n5 n5 n5 n6 n6 n6 n7 n7 n7 w3.heap.size _ _ ((t1.ext CeR.ok G.out).ext CeR.ok H) v1 m1 ((t2.ext (RwD.ok okEdit) G.out).ext (RwD.ok okEdit) H) v2 m2 ((t3.ext (RwD.ok okEdit) G.out).ext (RwD.ok okEdit) H) v3 m3 ((t4.ext okRule G.out).ext okRule H) v4 m4 ((t5.ext okWaiver G.out).ext okWaiver H) v5 m5 ((t6.ext DvR.ok G.out).ext DvR.ok H) v6 m6 ((t7.ext okPort G.out).ext okPort H) v7 m7).mono ?_; rintro e w9 ⟨rfl, E9⟩; have H0 := H.trans E9; clear H; have H := H0; clear H0))
  go_wp2_with (fail)
  go_ret
  exact ⟨rfl, E0.trans (E.trans H)⟩

end Go.Proofs.YtajlkanocngdfaaGreat
