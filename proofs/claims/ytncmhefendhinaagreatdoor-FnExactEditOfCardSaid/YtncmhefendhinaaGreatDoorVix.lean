/- Names of layers, orientations and cells looked up, program and reference. Condition: lengths that fit; the tables as they are laid. -/
import Derived.Test.YtncmhefendhinaaGreatDoorVkw
import Derived.Test.YtncmhefendhinaaGreatDoorSpl
namespace Go.Proofs.YtncmhefendhinaaGreatDoor
open Go.RowKit Go.PlainAid

theorem var_row {w : World} {n : String} {g : Nat} {L : List ByteArray} (hg : Tryz.prog.globalNamed n = some g) (h : w.var? Tryz.prog n = some (L.map Value.string).toArray) (hL : 0 < L.length) : SlD (Fl encW) 1 0 w (some ⟨g, 0, none⟩) L.length L := by
  have hc : ∀ (k : Nat) x, L[k]? = some x → w.cell? ⟨g, k, none⟩ = some (.string x) := fun k x hx => by
    have := World.var?_cell hg h k
    rw [this]
    simp [hx]
  refine ⟨rfl, Or.inr ⟨g, 0, rfl, Nat.zero_le _, lt_of_cell (hc 0 _ (List.getElem?_eq_getElem hL)), fun k x hx => ⟨encW x, rfl, fun j v hv => ?_⟩⟩⟩
  have hj : j = 0 := by
    have := (List.getElem?_eq_some_iff.1 hv).1
    rw [encW_len] at this
    omega
  subst hj
  cases hv
  rw [Nat.zero_add, Nat.mul_one, Nat.add_zero]
  exact hc k x hx
theorem slay {w : World} (h : Vrs w) : SlD (Fl encW) 1 0 w (some ⟨0, 0, none⟩) 8 layL := var_row (show Tryz.prog.globalNamed "loop.example/g00890/impl.layerNames" = some 0 by kernel_rfl) h.lay (by decide)
theorem sori {w : World} (h : Vrs w) : SlD (Fl encW) 1 0 w (some ⟨1, 0, none⟩) 8 oriL := var_row (show Tryz.prog.globalNamed "loop.example/g00890/impl.orientationNames" = some 1 by kernel_rfl) h.ori (by decide)
theorem eqW_flip {s y : ByteArray} {b : Bool} (h : (s.toList == y.toList) = b) : eqW s y = b := by rw [eqW, bq]; exact h
theorem get_w {base : Nat} {w : World} {q : Option Addr} {n k : Nat} {l : List ByteArray} (h : SlD (Fl encW) 1 base w q n l) (hk : k < n) : ∃ b off y, q = some ⟨b, off, none⟩ ∧ b < w.heap.size ∧ Hid (l[k]? = some y) ∧ w.cell? ⟨b, off + k, none⟩ = some (.string y) := by
  obtain ⟨b, off, y, cs, h1, h2, h3, h4, h5⟩ := h.get hk
  cases h4
  have h6 := h5 0 _ rfl
  rw [Nat.mul_one, Nat.add_zero] at h6
  exact ⟨b, off, y, h1, h2, h3, h6⟩

set_option maxRecDepth 100000 in
set_option maxHeartbeats 4000000 in
theorem indexStr_any (q : Option Addr) (n c base : Nat) (l : List ByteArray) (s : ByteArray) (w : World) (h : SlD (Fl encW) 1 base w q n l) (hn : n ≤ 1048576) :
    Calls Tryz.prog 99 #[.slice q n c, .string s] w fun e w' => e = .returned (.int .i64 (idx (eqW s) l)) ∧ w' = w := by
  have hl := hid h.length
  go_enter Tryz.func99, Tryz.ntmps99
  go_wp2
  go_loopw [5, 8] (fun _ i wr => ∃ k : Nat, k ≤ n ∧ i = .int .i64 k ∧ wr = w ∧ Hid ((l.take k).any (eqW s) = false)) (fun _ i _ => n - (intOf i).toNat)
  case atStart => exact ⟨0, by omega, rfl, by first | rfl | trivial, rfl⟩
  case round =>
    obtain ⟨k, hk, rfl, rfl, hA⟩ := hrel
    by_cases hlt : k < n
    · have hkI : (k : Int) < n := by omega
      obtain ⟨b, off, y, rfl, hb, hx, y0⟩ := get_w h hlt
      cases hq : (s.toList == y.toList) with
      | true =>
        have hr : Hid (idx (eqW s) l = k) := idx_hit hA.out hx.out (eqW_flip hq)
        go_wp2
        go_ret
        exact ⟨ret_int hr.out.symm, rfl⟩
      | false =>
        have hr : Hid ((l.take (k + 1)).any (eqW s) = false) := any_take_snoc hA.out hx.out (eqW_flip hq)
        go_wp2
        go_roundw
        case rel => exact ⟨k + 1, by omega, by go_num, by first | rfl | trivial, hr⟩
        case measure => simp [intOf]; omega
    · have hr : Hid (idx (eqW s) l = -1) := by
        have := hA.out
        rw [take_all hl.out (by omega)] at this
        exact idx_miss this
      go_wp2
      go_ret
      exact ⟨ret_int hr.out.symm, rfl⟩

set_option maxRecDepth 100000 in
set_option maxHeartbeats 4000000 in
theorem rFind_any (q : Option Addr) (n c base : Nat) (l : List ByteArray) (s : ByteArray) (w : World) (h : SlD (Fl encW) 1 base w q n l) (hn : n ≤ 1048576) :
    Calls Tryz.prog 92 #[.slice q n c, .string s] w fun e w' => e = .returned (.int .i64 (idx (eqW s) l)) ∧ w' = w := by
  have hl := hid h.length
  go_enter Tryz.func92, Tryz.ntmps92
  go_wp2
  go_loopw [5] (fun i wr => ∃ k : Nat, k ≤ n ∧ i = .int .i64 k ∧ wr = w ∧ Hid ((l.take k).any (eqW s) = false)) (fun i _ => n - (intOf i).toNat)
  case atStart => exact ⟨0, by omega, rfl, by first | rfl | trivial, rfl⟩
  case round =>
    obtain ⟨k, hk, rfl, rfl, hA⟩ := hrel
    by_cases hlt : k < n
    · have hkI : (k : Int) < n := by omega
      obtain ⟨b, off, y, rfl, hb, hx, y0⟩ := get_w h hlt
      cases hq : (y.toList == s.toList) with
      | true =>
        have hr : Hid (idx (eqW s) l = k) := idx_hit hA.out hx.out (hq)
        go_wp2
        go_ret
        exact ⟨ret_int hr.out.symm, rfl⟩
      | false =>
        have hr : Hid ((l.take (k + 1)).any (eqW s) = false) := any_take_snoc hA.out hx.out (hq)
        go_wp2
        go_roundw
        case rel => exact ⟨k + 1, by omega, by go_num, by first | rfl | trivial, hr⟩
        case measure => simp [intOf]; omega
    · have hr : Hid (idx (eqW s) l = -1) := by
        have := hA.out
        rw [take_all hl.out (by omega)] at this
        exact idx_miss this
      go_wp2
      go_ret
      exact ⟨ret_int hr.out.symm, rfl⟩

set_option maxRecDepth 100000 in
set_option maxHeartbeats 4000000 in
theorem pLayer_any (s : ByteArray) (w : World) (hV : Vrs w) :
    Calls Tryz.prog 89 #[.string s] w fun e w' => e = .returned (.int .i64 (idx (eqW s) layL)) ∧ w' = w := by
  have h0 := slay hV
  have hc := hid (fun c : Nat => indexStr_any _ 8 c 0 layL s w h0 (by omega))
  have h1 : 0 < w.heap.size := (get_w h0 (show 0 < 8 by omega)).elim fun b h => h.elim fun o h => h.elim fun y h => by have := h.1; cases this; exact h.2.1
  clear h0
  go_enter Tryz.func89, Tryz.ntmps89
  go_wp2_with (go_at_call 99; refine (hc.out _).mono ?_; rintro e w2 ⟨rfl, rfl⟩)
  go_ret
  exact ⟨rfl, rfl⟩

set_option maxRecDepth 100000 in
set_option maxHeartbeats 4000000 in
theorem pOri_any (s : ByteArray) (w : World) (hV : Vrs w) :
    Calls Tryz.prog 90 #[.string s] w fun e w' => e = .returned (.int .i64 (idx (eqW s) oriL)) ∧ w' = w := by
  have h0 := sori hV
  have hc := hid (fun c : Nat => indexStr_any _ 8 c 0 oriL s w h0 (by omega))
  have h1 : 1 < w.heap.size := (get_w h0 (show 0 < 8 by omega)).elim fun b h => h.elim fun o h => h.elim fun y h => by have := h.1; cases this; exact h.2.1
  clear h0
  go_enter Tryz.func90, Tryz.ntmps90
  go_wp2_with (go_at_call 99; refine (hc.out _).mono ?_; rintro e w2 ⟨rfl, rfl⟩)
  go_ret
  exact ⟨rfl, rfl⟩

set_option maxRecDepth 100000 in
set_option maxHeartbeats 4000000 in
theorem rNames_any (w : World) :
    Calls Tryz.prog 93 #[] w fun e w' => e = .returned (.slice (some ⟨w.heap.size, 0, none⟩) 8 8) ∧ SlD (Fl encW) 1 w.heap.size w' (some ⟨w.heap.size, 0, none⟩) 8 layL ∧ Ext w w' := by
  go_enter Tryz.func93, Tryz.ntmps93
  go_wp2
  go_ret
  exact ⟨rfl, SlD.of_owns encW_len rfl (World.ownsRow_lit w (layL.map Value.string).toArray 8 (Nat.le_refl _) (by simp [maxLen]) (by decide)), (Ext.refl w).alloc _⟩

set_option maxRecDepth 100000 in
set_option maxHeartbeats 4000000 in
theorem rOris_any (w : World) :
    Calls Tryz.prog 94 #[] w fun e w' => e = .returned (.slice (some ⟨w.heap.size, 0, none⟩) 8 8) ∧ SlD (Fl encW) 1 w.heap.size w' (some ⟨w.heap.size, 0, none⟩) 8 oriL ∧ Ext w w' := by
  go_enter Tryz.func94, Tryz.ntmps94
  go_wp2
  go_ret
  exact ⟨rfl, SlD.of_owns encW_len rfl (World.ownsRow_lit w (oriL.map Value.string).toArray 8 (Nat.le_refl _) (by simp [maxLen]) (by decide)), (Ext.refl w).alloc _⟩

set_option maxRecDepth 100000 in
set_option maxHeartbeats 4000000 in
theorem rLayer_any (s : ByteArray) (w : World) :
    Calls Tryz.prog 77 #[.string s] w fun e w' => e = .returned (.int .i64 (idx (eqW s) layL)) ∧ Ext w w' := by
  go_enter Tryz.func77, Tryz.ntmps77
  go_wp2_with (first | (go_at_call 93; refine (rNames_any _).mono ?_; rintro e w2 ⟨rfl, S2, E2⟩) | (go_at_call 92; refine (rFind_any _ 8 8 _ layL s _ S2 (by omega)).mono ?_; rintro e w3 ⟨rfl, rfl⟩))
  go_ret
  exact ⟨rfl, E2⟩

set_option maxRecDepth 100000 in
set_option maxHeartbeats 4000000 in
theorem rOri_any (s : ByteArray) (w : World) :
    Calls Tryz.prog 78 #[.string s] w fun e w' => e = .returned (.int .i64 (idx (eqW s) oriL)) ∧ Ext w w' := by
  go_enter Tryz.func78, Tryz.ntmps78
  go_wp2
  go_loopw [3] (fun i wr => ∃ k : Nat, k ≤ 8 ∧ i = .int .i64 k ∧ Ext w wr ∧ Hid ((oriL.take k).any (eqW s) = false)) (fun i _ => 8 - (intOf i).toNat)
  case atStart => exact ⟨0, by omega, rfl, Ext.refl _, rfl⟩
  case round =>
    obtain ⟨k, hk, rfl, E, hA⟩ := hrel
    by_cases hlt : k < 8
    · have hkI : (k : Int) < 8 := by omega
      obtain ⟨y, hy⟩ : ∃ y, y = (oriL[k]?).getD emp := ⟨_, rfl⟩
      have hx := hid (show oriL[k]? = some y by rw [hy]; rw [List.getElem?_eq_getElem (show k < oriL.length from hlt)]; rfl)
      clear hy
      cases hq : (y.toList == s.toList) with
      | true =>
        have hr : Hid (idx (eqW s) oriL = k) := idx_hit hA.out hx.out hq
        go_wp2_with (go_at_call 94; refine (rOris_any _).mono ?_; rintro e w2 ⟨rfl, S2, E2⟩; obtain ⟨b, off, y2, h3, hb, hx2, y0⟩ := get_w S2 hlt; cases h3; obtain rfl : y = y2 := Option.some.inj (hx.out.symm.trans hx2.out); rw [Nat.zero_add] at y0; clear S2 hx2)
        go_ret
        exact ⟨ret_int hr.out.symm, E.trans E2⟩
      | false =>
        have hr : Hid ((oriL.take (k + 1)).any (eqW s) = false) := any_take_snoc hA.out hx.out hq
        go_wp2_with (go_at_call 94; refine (rOris_any _).mono ?_; rintro e w2 ⟨rfl, S2, E2⟩; obtain ⟨b, off, y2, h3, hb, hx2, y0⟩ := get_w S2 hlt; cases h3; obtain rfl : y = y2 := Option.some.inj (hx.out.symm.trans hx2.out); rw [Nat.zero_add] at y0; clear S2 hx2)
        go_roundw
        case rel => exact ⟨k + 1, by omega, by go_num, E.trans E2, hr⟩
        case measure => simp [intOf]; omega
    · have hr : Hid (idx (eqW s) oriL = -1) := by
        have := hA.out
        rw [take_all (show oriL.length = 8 from rfl) (by omega)] at this
        exact idx_miss this
      go_wp2
      go_ret
      exact ⟨ret_int hr.out.symm, E⟩

set_option maxRecDepth 100000 in
set_option maxHeartbeats 4000000 in
theorem rCellIx_any (p : Option Addr) (n c base : Nat) (l : List CeD) (s : ByteArray) (w : World) (h : SlD CeR 4 base w p n l) (hn : n ≤ 1048576) (hf : ∀ x ∈ l, FitCe x) (hB : libB l = true) :
    Calls Tryz.prog 76 #[.agg #[.slice p n c], .string s] w fun e w' => e = .returned (.int .i64 (idx (eqN s) l)) ∧ Ext w w' := by
  have hl := hid h.length
  have hcall : Hid (∀ W, Ext w W → Calls Tryz.prog 11 #[.agg #[.slice p n c]] W fun e w' => e = .returned (.bool true) ∧ Ext W w') := fun W hE => by
    have := rLib_any p n c base l W (h.ext CeR.ok hE) (by omega) hf
    rwa [hB] at this
  go_enter Tryz.func76, Tryz.ntmps76
  go_upto_region 1 with (fail)
  generalize hW : World.alloc _ _ = W0
  obtain ⟨E0, z0, b0⟩ := boxes1 hW
  clear hW z0
  replace b0 := hid (show Blk W0 (w.heap.size) [_] _ from b0)
  have g0 := b0.out.cells
  have l0 := b0.out.lt
  have E := Ext.refl W0
  go_wp2_with (fail)
  go_loopw [5] (fun i wr => ∃ k : Nat, k ≤ n ∧ i = .int .i64 k ∧ Ext W0 wr ∧ Hid ((l.take k).any (eqN s) = false)) (fun i _ => n - (intOf i).toNat)
  case atStart => exact ⟨0, by omega, rfl, E, rfl⟩
  case round =>
    clear g0 l0 E
    obtain ⟨k, hk, rfl, E, hA⟩ := hrel
    have g0 := (b0.out.ext E).cells
    have l0 := (b0.out.ext E).lt
    by_cases hlt : k < n
    · have hkI : (k : Int) < n := by omega
      obtain ⟨b, off, y, cs, rfl, hb, hx, hcs, hc⟩ := ((h.ext CeR.ok E0).ext CeR.ok E).get hlt
      obtain ⟨p1, n1, c1, p2, n2, c2, p3, n3, c3, rfl, s1, s2, s3⟩ := hcs
      have y0 := hc 0 _ rfl
      rw [Nat.add_zero] at y0
      replace y0 := hid y0
      clear hc s1 s2 s3
      cases hq : (y.s.toList == s.toList) with
      | true =>
        have hr : Hid (idx (eqN s) l = k) := idx_hit hA.out hx.out hq
        go_wp2_with (go_at_call 11; refine (hcall.out _ (E0.trans E)).mono ?_; rintro e w4 ⟨rfl, E4⟩; have y9 := (E4.cells _ _ hb).trans y0.out; replace hb := Nat.lt_of_lt_of_le hb E4.le; replace E := E.trans E4; clear g0 l0; have g0 := (b0.out.ext E).cells; have l0 := (b0.out.ext E).lt)
        go_ret
        exact ⟨ret_int hr.out.symm, E0.trans E⟩
      | false =>
        have hr : Hid ((l.take (k + 1)).any (eqN s) = false) := any_take_snoc hA.out hx.out hq
        go_wp2_with (go_at_call 11; refine (hcall.out _ (E0.trans E)).mono ?_; rintro e w4 ⟨rfl, E4⟩; have y9 := (E4.cells _ _ hb).trans y0.out; replace hb := Nat.lt_of_lt_of_le hb E4.le; replace E := E.trans E4; clear g0 l0; have g0 := (b0.out.ext E).cells; have l0 := (b0.out.ext E).lt)
        go_roundw
        case rel => exact ⟨k + 1, by omega, by go_num, E, hr⟩
        case measure => simp [intOf]; omega
    · have hr : Hid (idx (eqN s) l = -1) := by
        have := hA.out
        rw [take_all hl.out (by omega)] at this
        exact idx_miss this
      go_wp2_with (fail)
      go_ret
      exact ⟨ret_int hr.out.symm, E0.trans E⟩

end Go.Proofs.YtncmhefendhinaaGreatDoor
