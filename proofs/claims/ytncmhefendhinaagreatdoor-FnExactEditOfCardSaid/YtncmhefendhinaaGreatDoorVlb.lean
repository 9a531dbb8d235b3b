/- Validity of libraries, program and reference. Condition: lengths that fit. -/
import Derived.Test.YtncmhefendhinaaGreatDoorVcl
import Derived.BigRegion
namespace Go.Proofs.YtncmhefendhinaaGreatDoor
open Go.RowKit Go.PlainAid

/-- The cell at k is valid and no earlier one has its name. -/
def cellOk (l : List CeD) (k : Nat) : Bool := match l[k]? with | some c => ceB c k && !((l.take k).any fun d => d.s.toList == c.s.toList) | none => true
def libB (l : List CeD) : Bool := decide (1 ≤ l.length) && (decide (l.length ≤ 8) && (List.range l.length).all (cellOk l))
theorem range_no {f : Nat → Bool} {n k : Nat} (hk : k < n) (h : f k = false) : (List.range n).all f = false := by
  rw [List.all_eq_false]
  exact ⟨k, List.mem_range.2 hk, by rw [h]; simp⟩
theorem range_yes {f : Nat → Bool} {n : Nat} (h : ∀ j, j < n → f j = true) : (List.range n).all f = true := by
  rw [List.all_eq_true]
  exact fun i hi => h i (List.mem_range.1 hi)
theorem idx_lt {α : Type} {p : α → Bool} {l : List α} {k : Nat} (h : (l.take k).any p = true) : idx p l ≠ k := by
  intro he
  unfold idx at he
  split at he
  · rename_i i hi
    obtain rfl : i = k := by omega
    rw [List.findIdx?_eq_some_iff_getElem] at hi
    obtain ⟨hl, h1, h2⟩ := hi
    rw [List.any_eq_true] at h
    obtain ⟨x, hx, hp⟩ := h
    obtain ⟨j, hj, rfl⟩ := List.mem_take_iff_getElem.1 hx
    exact h2 j (by omega) hp
  · omega
theorem cellOk_bad {l : List CeD} {k : Nat} {y : CeD} (hx : l[k]? = some y) (h : ceB y k = false) : cellOk l k = false := by
  rw [cellOk, hx]; simp [h]
theorem cellOk_dup {l : List CeD} {k : Nat} {y : CeD} (hx : l[k]? = some y) (h : ((l.take k).any fun d => d.s.toList == y.s.toList) = true) : cellOk l k = false := by
  rw [cellOk, hx]; simp only [h]; simp
theorem cellOk_good {l : List CeD} {k : Nat} {y : CeD} (hx : l[k]? = some y) (h : ceB y k = true) (h2 : ((l.take k).any fun d => d.s.toList == y.s.toList) = false) : cellOk l k = true := by
  rw [cellOk, hx]; simp only [h, h2]; rfl

set_option maxRecDepth 100000 in
set_option maxHeartbeats 4000000 in
theorem vN1_any (x : CeD) (nm : ByteArray) (p1 p2 p3 : Option Addr) (n1 c1 n2 c2 n3 c3 B : Nat) (w : World) (hB : B < w.heap.size) (hc : w.cell? ⟨B, 0, none⟩ = some (.string nm)) :
    Calls Tryz.prog 65 #[.agg #[.string x.s, .slice p1 n1 c1, .slice p2 n2 c2, .slice p3 n3 c3], .pointer (some ⟨B, 0, none⟩)] w fun e w' => e = .returned (.bool (x.s.toList == nm.toList)) ∧ Ext w w' := by
  go_enter Tryz.func65, Tryz.ntmps65
  go_upto_region 1 with (fail)
  generalize hW : World.alloc _ _ = W0
  obtain ⟨E0, z0, b0⟩ := boxes1 hW
  clear hW z0
  replace b0 := hid (show Blk W0 (w.heap.size) [_, _, _, _] _ from b0)
  have g0 := b0.out.cells
  have l0 := b0.out.lt
  have E := Ext.refl W0
  have hc0 := (E0.cells B _ hB).trans hc
  have hB0 : B < W0.heap.size := Nat.lt_of_lt_of_le hB E0.le
  go_wp2_with (fail)
  go_ret
  exact ⟨rfl, E0.trans E⟩
set_option maxRecDepth 100000 in
set_option maxHeartbeats 4000000 in
theorem named_any (p : Option Addr) (n c base : Nat) (l : List CeD) (nm : ByteArray) (w : World) (h : SlD CeR 4 base w p n l) (hn : n ≤ 1048576) :
    Calls Tryz.prog 30 #[.agg #[.slice p n c], .string nm] w fun e w' => e = .returned (.int .i64 (idx (fun y => y.s.toList == nm.toList) l)) ∧ Ext w w' := by
  go_enter Tryz.func30, Tryz.ntmps30
  go_upto_region 1 with (fail)
  generalize hW : World.alloc (World.alloc _ _) _ = W0
  obtain ⟨E0, z0, b0, b1⟩ := boxes2 hW
  clear hW z0
  replace b0 := hid (show Blk W0 (w.heap.size) [_] _ from b0)
  replace b1 := hid (show Blk W0 (w.heap.size + 1) [_] _ from b1)
  have g0 := b0.out.cells
  have l0 := b0.out.lt
  have g1 := b1.out.cells
  have l1 := b1.out.lt
  have E := Ext.refl W0
  have cf : ∀ W, Ext W0 W → Calls Tryz.prog 64 #[.slice p n c, .func (.func 65) #[] #[.pointer (some ⟨w.heap.size + 1, 0, none⟩)]] W fun e w2 => e = .returned (.int .i64 (idx (fun y => y.s.toList == nm.toList) l)) ∧ Ext W w2 := fun W hX =>
    indexFuncCellD p n c base l (fun y => y.s.toList == nm.toList) 65 #[.pointer (some ⟨w.heap.size + 1, 0, none⟩)] (enters_of Tryz.func65 (by kernel_rfl) rfl) W ((h.ext CeR.ok E0).ext CeR.ok hX)
      (fun W2 y cs hE hy hcs => by obtain ⟨p1, n1, c1, p2, n2, c2, p3, n3, c3, rfl, s1, s2, s3⟩ := hcs; exact vN1_any y nm p1 p2 p3 n1 c1 n2 c2 n3 c3 (w.heap.size + 1) W2 (Nat.lt_of_lt_of_le b1.out.lt (hX.trans hE).le) (((hX.trans hE).cells _ _ b1.out.lt).trans (b1.out.cells 0))) hn
  replace cf := hid cf
  go_wp2_with (first | (go_at_call 64; refine (cf.out _ E).mono ?_; rintro e w4 ⟨rfl, E4⟩; replace E := E.trans E4; clear g0 l0 g1 l1 E4; have g0 := (b0.out.ext E).cells; have l0 := (b0.out.ext E).lt; have g1 := (b1.out.ext E).cells; have l1 := (b1.out.ext E).lt))
  go_ret
  exact ⟨rfl, E0.trans E⟩
set_option maxRecDepth 100000 in
set_option maxHeartbeats 4000000 in
theorem pLib_any (p : Option Addr) (n c base : Nat) (l : List CeD) (w : World) (h : SlD CeR 4 base w p n l) (hn : n ≤ 9223372036854775807) (hf : ∀ x ∈ l, FitCe x) :
    Calls Tryz.prog 15 #[.agg #[.slice p n c]] w fun e w' => e = .returned (.bool (libB l)) ∧ Ext w w' := by
  have hf := hid hf
  have hl := hid h.length
  by_cases m1 : n < 1
  · have z1 : (n : Int) < 1 := by omega
    have d1 : decide (1 ≤ l.length) = false := decide_eq_false (by have := hl.out; omega)
    have hr : Hid (false = libB l) := by show _ = _; unfold libB; first | (rw [d1]; done) | (rw [d1]; rfl)
    go_enter Tryz.func15, Tryz.ntmps15
    go_upto_region 1 with (fail)
    generalize hW : World.alloc _ _ = W0
    obtain ⟨E0, z0, b0⟩ := boxes1 hW
    clear hW z0
    replace b0 := hid (show Blk W0 (w.heap.size) [_] _ from b0)
    have g0 := b0.out.cells
    have l0 := b0.out.lt
    have E := Ext.refl W0
    go_wp2_with (fail)
    go_ret
    exact ⟨ret_bool hr.out, E0.trans E⟩
  have d1 : decide (1 ≤ l.length) = true := decide_eq_true (by have := hl.out; omega)
  replace d1 := hid d1
  by_cases m2 : 8 < n
  · have z2 : (8 : Int) < n := by omega
    have d2 : decide (l.length ≤ 8) = false := decide_eq_false (by have := hl.out; omega)
    have hr : Hid (false = libB l) := by show _ = _; unfold libB; first | (rw [d1.out, d2]; done) | (rw [d1.out, d2]; rfl)
    go_enter Tryz.func15, Tryz.ntmps15
    go_upto_region 1 with (fail)
    generalize hW : World.alloc _ _ = W0
    obtain ⟨E0, z0, b0⟩ := boxes1 hW
    clear hW z0
    replace b0 := hid (show Blk W0 (w.heap.size) [_] _ from b0)
    have g0 := b0.out.cells
    have l0 := b0.out.lt
    have E := Ext.refl W0
    go_wp2_with (fail)
    go_ret
    exact ⟨ret_bool hr.out, E0.trans E⟩
  have d2 : decide (l.length ≤ 8) = true := decide_eq_true (by have := hl.out; omega)
  replace d2 := hid d2
  go_enter Tryz.func15, Tryz.ntmps15
  go_upto_region 1 with (fail)
  generalize hW : World.alloc _ _ = W0
  obtain ⟨E0, z0, b0⟩ := boxes1 hW
  clear hW z0
  replace b0 := hid (show Blk W0 (w.heap.size) [_] _ from b0)
  have g0 := b0.out.cells
  have l0 := b0.out.lt
  have E := Ext.refl W0
  go_wp2_with (fail)
  go_loopw [3, 4, 18] (fun _ _ i wr => ∃ k : Nat, k ≤ n ∧ i = .int .i64 k ∧ Ext W0 wr ∧ Hid (∀ j, j < k → cellOk l j = true)) (fun _ _ i _ => n - (intOf i).toNat)
  case atStart => exact ⟨0, by omega, rfl, E, fun j hj => by omega⟩
  case round =>
    clear g0 l0 E
    obtain ⟨k, hk, rfl, E, hA⟩ := hrel
    have g0 := (b0.out.ext E).cells
    have l0 := (b0.out.ext E).lt
    by_cases hlt : k < n
    · have hltI : (k : Int) < n := by omega
      obtain ⟨b, off, y, cs, rfl, hb, hx, hcs, hc⟩ := ((h.ext CeR.ok E0).ext CeR.ok E).get hlt
      have hfy := hid (hf.out y (List.mem_of_getElem? hx.out))
      obtain ⟨p1, n1, c1, p2, n2, c2, p3, n3, c3, rfl, s1, s2, s3⟩ := hcs
      have y0 := hc 0 _ rfl
      rw [Nat.add_zero] at y0
      have y1 := hc 1 _ rfl
      have y2 := hc 2 _ rfl
      have y3 := hc 3 _ rfl
      clear hc
      go_upto_region 6 with (fail)
      generalize hV : World.alloc _ _ = W1
      obtain ⟨E1, z1, b1⟩ := boxes1 hV
      clear hV z1
      replace b1 := hid (show Blk W1 wr.heap.size [_, _, _, _] _ from b1)
      replace E := E.trans E1
      clear g0 l0 y0 y1 y2 y3
      have g0 := (b0.out.ext E).cells
      have l0 := (b0.out.ext E).lt
      have g1 := b1.out.cells
      have l1 := b1.out.lt
      have hcall := hid (pCell_any y k p1 p2 p3 n1 c1 n2 c2 n3 c3 base W1 (s1.ext okShape E1) (s2.ext okLabel E1) (s3.ext okInstance E1) ⟨by omega, by omega⟩ hfy.out)
      have hB : Blk W1 wr.heap.size _ _ := b1.out
      cases hq : ceB y k with
      | false =>
        have a1 : (List.range l.length).all (cellOk l) = false := range_no (by rw [hl.out]; exact hlt) (cellOk_bad hx.out hq)
        have hr : Hid (false = libB l) := by show _ = _; unfold libB; first | (rw [d1.out, d2.out, a1]; done) | (rw [d1.out, d2.out, a1]; rfl)
        rw [hq] at hcall
        clear hq a1 hB
        go_wp2_with (first | (go_at_call 29; refine hcall.out.mono ?_; rintro e w4 ⟨rfl, E4⟩))
        go_ret
        exact ⟨ret_bool hr.out, E0.trans (E.trans E4)⟩
      | true =>
        rw [hq] at hcall
        have E' := hid E
        have hcall2 : ∀ W, Ext W1 W → Calls Tryz.prog 30 #[.agg #[.slice (some ⟨b, off, none⟩) n c], .string y.s] W fun e w2 => e = .returned (.int .i64 (idx (fun d => d.s.toList == y.s.toList) l)) ∧ Ext W w2 := fun W hX =>
          named_any (some ⟨b, off, none⟩) n c base l y.s W (((h.ext CeR.ok E0).ext CeR.ok E'.out).ext CeR.ok hX) (by omega)
        cases hd : (l.take k).any fun d => d.s.toList == y.s.toList with
        | false =>
          have hi : idx (fun d => d.s.toList == y.s.toList) l = k := idx_hit hd hx.out (by simp)
          have hr := hid (cellOk_good hx.out hq hd)
          rw [hi] at hcall2
          replace hcall2 := hid hcall2
          clear hq hd hi hB
          go_wp2_with (first | (go_at_call 29; refine hcall.out.mono ?_; rintro e w4 ⟨rfl, E4⟩; replace b1 := hid (b1.out.ext E4); replace E := E.trans E4; clear g0 l0 g1 l1; have g0 := (b0.out.ext E).cells; have l0 := (b0.out.ext E).lt; have g1 := b1.out.cells; have l1 := b1.out.lt) | (go_at_call 30; refine (hcall2.out _ E4).mono ?_; rintro e w5 ⟨rfl, E5⟩; replace b1 := hid (b1.out.ext E5); replace E := E.trans E5; clear g0 l0 g1 l1; have g0 := (b0.out.ext E).cells; have l0 := (b0.out.ext E).lt; have g1 := b1.out.cells; have l1 := b1.out.lt))
          go_roundw
          case rel =>
            refine ⟨k + 1, by omega, by go_num, E, fun j hj => ?_⟩
            by_cases hjk : j = k
            · subst hjk; exact hr.out
            · exact hA.out j (by omega)
          case measure => simp [intOf]; omega
        | true =>
          have a1 : (List.range l.length).all (cellOk l) = false := range_no (by rw [hl.out]; exact hlt) (cellOk_dup hx.out hd)
          have hr : Hid (false = libB l) := by show _ = _; unfold libB; first | (rw [d1.out, d2.out, a1]; done) | (rw [d1.out, d2.out, a1]; rfl)
          obtain ⟨i, hi⟩ : ∃ i, i = idx (fun d => d.s.toList == y.s.toList) l := ⟨_, rfl⟩
          have hne : i ≠ (k : Int) := by rw [hi]; exact idx_lt hd
          rw [← hi] at hcall2
          replace hcall2 := hid hcall2
          clear hq hd hi a1 hB
          go_wp2_with (first | (go_at_call 29; refine hcall.out.mono ?_; rintro e w4 ⟨rfl, E4⟩; replace b1 := hid (b1.out.ext E4); replace E := E.trans E4; clear g0 l0 g1 l1; have g0 := (b0.out.ext E).cells; have l0 := (b0.out.ext E).lt; have g1 := b1.out.cells; have l1 := b1.out.lt) | (go_at_call 30; refine (hcall2.out _ E4).mono ?_; rintro e w5 ⟨rfl, E5⟩; replace b1 := hid (b1.out.ext E5); replace E := E.trans E5; clear g0 l0 g1 l1; have g0 := (b0.out.ext E).cells; have l0 := (b0.out.ext E).lt; have g1 := b1.out.cells; have l1 := b1.out.lt))
          go_ret
          exact ⟨ret_bool hr.out, E0.trans E⟩
    · have a1 : (List.range l.length).all (cellOk l) = true := range_yes fun j hj => hA.out j (by have := hl.out; omega)
      have hr : Hid (true = libB l) := by show _ = _; unfold libB; first | (rw [d1.out, d2.out, a1]; done) | (rw [d1.out, d2.out, a1]; rfl)
      clear a1
      go_wp2_with (fail)
      go_ret
      exact ⟨ret_bool hr.out, E0.trans E⟩

set_option maxRecDepth 100000 in
set_option maxHeartbeats 4000000 in
theorem rLib_any (p : Option Addr) (n c base : Nat) (l : List CeD) (w : World) (h : SlD CeR 4 base w p n l) (hn : n ≤ 9223372036854775807) (hf : ∀ x ∈ l, FitCe x) :
    Calls Tryz.prog 11 #[.agg #[.slice p n c]] w fun e w' => e = .returned (.bool (libB l)) ∧ Ext w w' := by
  have hf := hid hf
  have hl := hid h.length
  by_cases m1 : n < 1
  · have z1 : (n : Int) < 1 := by omega
    have d1 : decide (1 ≤ l.length) = false := decide_eq_false (by have := hl.out; omega)
    have hr : Hid (false = libB l) := by show _ = _; unfold libB; first | (rw [d1]; done) | (rw [d1]; rfl)
    go_enter Tryz.func11, Tryz.ntmps11
    go_upto_region 1 with (fail)
    generalize hW : World.alloc _ _ = W0
    obtain ⟨E0, z0, b0⟩ := boxes1 hW
    clear hW z0
    replace b0 := hid (show Blk W0 (w.heap.size) [_] _ from b0)
    have g0 := b0.out.cells
    have l0 := b0.out.lt
    have E := Ext.refl W0
    go_wp2_with (fail)
    go_ret
    exact ⟨ret_bool hr.out, E0.trans E⟩
  have d1 : decide (1 ≤ l.length) = true := decide_eq_true (by have := hl.out; omega)
  replace d1 := hid d1
  by_cases m2 : 8 < n
  · have z2 : (8 : Int) < n := by omega
    have d2 : decide (l.length ≤ 8) = false := decide_eq_false (by have := hl.out; omega)
    have hr : Hid (false = libB l) := by show _ = _; unfold libB; first | (rw [d1.out, d2]; done) | (rw [d1.out, d2]; rfl)
    go_enter Tryz.func11, Tryz.ntmps11
    go_upto_region 1 with (fail)
    generalize hW : World.alloc _ _ = W0
    obtain ⟨E0, z0, b0⟩ := boxes1 hW
    clear hW z0
    replace b0 := hid (show Blk W0 (w.heap.size) [_] _ from b0)
    have g0 := b0.out.cells
    have l0 := b0.out.lt
    have E := Ext.refl W0
    go_wp2_with (fail)
    go_ret
    exact ⟨ret_bool hr.out, E0.trans E⟩
  have d2 : decide (l.length ≤ 8) = true := decide_eq_true (by have := hl.out; omega)
  replace d2 := hid d2
  go_enter Tryz.func11, Tryz.ntmps11
  go_upto_region 1 with (fail)
  generalize hW : World.alloc _ _ = W0
  obtain ⟨E0, z0, b0⟩ := boxes1 hW
  clear hW z0
  replace b0 := hid (show Blk W0 (w.heap.size) [_] _ from b0)
  have g0 := b0.out.cells
  have l0 := b0.out.lt
  have E := Ext.refl W0
  go_wp2_with (fail)
  go_loopw [3, 4] (fun i _ wr => ∃ k : Nat, k ≤ n ∧ i = .int .i64 k ∧ Ext W0 wr ∧ Hid (∀ j, j < k → cellOk l j = true)) (fun i _ _ => n - (intOf i).toNat)
  case atStart => exact ⟨0, by omega, rfl, E, fun j hj => by omega⟩
  case round =>
    clear g0 l0 E
    obtain ⟨k, hk, rfl, E, hA⟩ := hrel
    have g0 := (b0.out.ext E).cells
    have l0 := (b0.out.ext E).lt
    by_cases hlt : k < n
    · have hltI : (k : Int) < n := by omega
      obtain ⟨b, off, y, cs, rfl, hb, hx, hcs, hc⟩ := ((h.ext CeR.ok E0).ext CeR.ok E).get hlt
      have hfy := hid (hf.out y (List.mem_of_getElem? hx.out))
      obtain ⟨p1, n1, c1, p2, n2, c2, p3, n3, c3, rfl, s1, s2, s3⟩ := hcs
      have y0 := hc 0 _ rfl
      rw [Nat.add_zero] at y0
      have y1 := hc 1 _ rfl
      have y2 := hc 2 _ rfl
      have y3 := hc 3 _ rfl
      clear hc
      have hcall := hid (rCell_any y k p1 p2 p3 n1 c1 n2 c2 n3 c3 base wr s1 s2 s3 ⟨by omega, by omega⟩ hfy.out)
      cases hq : ceB y k with
      | false =>
        have a1 : (List.range l.length).all (cellOk l) = false := range_no (by rw [hl.out]; exact hlt) (cellOk_bad hx.out hq)
        have hr : Hid (false = libB l) := by show _ = _; unfold libB; first | (rw [d1.out, d2.out, a1]; done) | (rw [d1.out, d2.out, a1]; rfl)
        rw [hq] at hcall
        clear hq a1
        go_wp2_with (first | (go_at_call 23; refine hcall.out.mono ?_; rintro e w4 ⟨rfl, E4⟩))
        go_ret
        exact ⟨ret_bool hr.out, E0.trans (E.trans E4)⟩
      | true =>
        rw [hq] at hcall
        replace hq := hid hq
        go_wp2_with (first | (go_at_call 23; refine hcall.out.mono ?_; rintro e w4 ⟨rfl, E4⟩; replace E := E.trans E4; clear g0 l0; have g0 := (b0.out.ext E).cells; have l0 := (b0.out.ext E).lt))
        clear hcall y0 y1 y2 y3 s1 s2 s3 hb
        go_loopw [4] (fun q wr => ∃ m : Nat, m ≤ k ∧ q = .int .i64 m ∧ Ext w4 wr ∧ Hid (((l.take m).any fun d => d.s.toList == y.s.toList) = false)) (fun q _ => k - (intOf q).toNat)
        case atStart => exact ⟨0, by omega, rfl, Ext.refl _, rfl⟩
        case round =>
          clear g0 l0
          obtain ⟨m, hm, rfl, EI, hB⟩ := hrel
          have EE := E.trans EI
          have g0 := (b0.out.ext EE).cells
          have l0 := (b0.out.ext EE).lt
          by_cases hmk : m < k
          · have hmkI : (m : Int) < k := by omega
            obtain ⟨b', off', y', cs, hbb, hb, hx', hcs, hc⟩ := ((h.ext CeR.ok E0).ext CeR.ok EE).get hlt
            cases hbb
            obtain rfl : y = y' := Option.some.inj (hx.out.symm.trans hx'.out)
            obtain ⟨p1, n1, c1, p2, n2, c2, p3, n3, c3, rfl, s1, s2, s3⟩ := hcs
            have y0 := hc 0 _ rfl
            rw [Nat.add_zero] at y0
            clear hc hx' s1 s2 s3
            obtain ⟨b', off', z, cs, hbb, _, hz, hcs, hc⟩ := ((h.ext CeR.ok E0).ext CeR.ok EE).get (show m < n by omega)
            cases hbb
            obtain ⟨p4, n4, c4, p5, n5, c5, p6, n6, c6, rfl, s1, s2, s3⟩ := hcs
            have z0 := hc 0 _ rfl
            rw [Nat.add_zero] at z0
            clear hc s1 s2 s3
            have hmn : (m : Int) < n := by omega
            cases he : (z.s.toList == y.s.toList) with
            | true =>
              have a1 : (List.range l.length).all (cellOk l) = false := range_no (by rw [hl.out]; exact hlt) (cellOk_dup hx.out (by rw [List.any_eq_true]; exact ⟨z, List.mem_of_getElem? (by rw [List.getElem?_take_of_lt hmk]; exact hz.out), he⟩))
              have hr : Hid (false = libB l) := by show _ = _; unfold libB; first | (rw [d1.out, d2.out, a1]; done) | (rw [d1.out, d2.out, a1]; rfl)
              clear a1
              go_wp2_with (fail)
              refine wp_region_later (by kernel_rfl) (by kernel_rfl) ?_
              repeat (go_big_quiet_step (fail))
              refine wpQuiet_nil ?_
              rintro w7 ⟨⟨_, h7⟩, rfl⟩
              go_wp2
              go_ret
              exact ⟨ret_bool hr.out, E0.trans (EE.trans h7)⟩
            | false =>
              have hr := hid (any_take_snoc hB.out hz.out he)
              go_wp2_with (fail)
              refine wp_region_later (by kernel_rfl) (by kernel_rfl) ?_
              repeat (go_big_quiet_step (fail))
              refine wpQuiet_nil ?_
              rintro w7 ⟨⟨_, h7⟩, rfl⟩
              go_wp2
              go_roundw
              case rel => exact ⟨m + 1, by omega, by go_num, EI.trans h7, hr⟩
              case measure => simp [intOf]; omega
          · obtain rfl : m = k := by omega
            have hr := hid (cellOk_good hx.out hq.out hB.out)
            go_wp2_with (fail)
            go_roundw
            case rel =>
              refine ⟨m + 1, by omega, by go_num, EE, fun j hj => ?_⟩
              by_cases hjk : j = m
              · subst hjk; exact hr.out
              · exact hA.out j (by omega)
            case measure => simp [intOf]; omega
    · have a1 : (List.range l.length).all (cellOk l) = true := range_yes fun j hj => hA.out j (by have := hl.out; omega)
      have hr : Hid (true = libB l) := by show _ = _; unfold libB; first | (rw [d1.out, d2.out, a1]; done) | (rw [d1.out, d2.out, a1]; rfl)
      clear a1
      go_wp2_with (fail)
      go_ret
      exact ⟨ret_bool hr.out, E0.trans E⟩

end Go.Proofs.YtncmhefendhinaaGreatDoor
