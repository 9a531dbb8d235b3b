/- What a word stands for, program and reference. Condition: lengths that fit; the tables as they are laid; a valid library. -/
import Derived.Test.YtncmhefendhinaaGreatDoorVix
import Derived.Test.YtncmhefendhinaaGreatDoorVlv
namespace Go.Proofs.YtncmhefendhinaaGreatDoor
open Go.RowKit Go.PlainAid
set_option linter.unusedVariables false
set_option linter.unusedSimpArgs false

/-- The letters of the kinds of words, program and reference. -/
def chP (k : Nat) : Int := match k with | 0 => 99 | 1 => 108 | 2 => 111 | 3 => 110 | _ => 78
def chR (k : Nat) : Int := match k with | 0 => 67 | 1 => 76 | 2 => 79 | 3 => 78 | _ => 65
theorem idx_lo {α : Type} (p : α → Bool) (l : List α) : -1 ≤ idx p l := by
  unfold idx
  cases l.findIdx? p <;> simp <;> omega
/-- What comes back: 0 beside a code. -/
def wW (l : List CeD) (k : Nat) (s : ByteArray) : Int := if wC l k s = 0 then wN l k s else 0
theorem wW_no {l : List CeD} {k : Nat} {s : ByteArray} {c : Int} (h : wC l k s = c) (hc : c ≠ 0) : wW l k s = 0 ∧ wC l k s = c := ⟨if_neg (by rw [h]; exact hc), h⟩
theorem wW_ok {l : List CeD} {k : Nat} {s : ByteArray} (h : wC l k s = 0) : wW l k s = wN l k s ∧ wC l k s = 0 := ⟨if_pos h, h⟩
def WdC (F : Nat) (args : Array Value) (l : List CeD) (k : Nat) (s : ByteArray) (w : World) : Prop :=
  Calls Tryz.prog F args w fun e w' => e = .returned (.tuple #[.int .i64 (wW l k s), .int .i64 (wC l k s)]) ∧ Ext w w'

set_option maxRecDepth 100000 in
set_option maxHeartbeats 4000000 in
theorem pWord1 (s : ByteArray) (l : List CeD) (B : Nat) (w : World) (hV : Vrs w) (hs : s.size ≤ 1048576) :
    WdC 66 #[.pointer (some ⟨B, 0, none⟩), .int .u8 108, .string s] l 1 s w := by
  unfold WdC
  obtain ⟨i, hi⟩ : ∃ i, i = idx (eqW s) layL := ⟨_, rfl⟩
  have hlo : -1 ≤ i := by rw [hi]; exact idx_lo _ _
  by_cases h0 : i < 0
  · have hr := hid (wW_no (l := l) (k := 1) (s := s) (c := 5) (by unfold wC; exact if_pos (by rw [← hi]; exact h0)) (by decide))
    have h1 : ¬ (0 ≤ i) := by omega
    go_enter Tryz.func66, Tryz.ntmps66
    go_wp2_with (go_at_call 89; refine (pLayer_any s _ hV).mono ?_; rw [← hi]; rintro e w2 ⟨rfl, rfl⟩)
    go_ret2
    rw [hr.out.1, hr.out.2]; exact ⟨rfl, Ext.refl _⟩
  · have hr := hid (wW_ok (l := l) (k := 1) (s := s) (by unfold wC; exact if_neg (by rw [← hi]; exact h0)))
    have h1 : 0 ≤ i := by omega
    have hv : Hid (i = wN l 1 s) := hid hi
    go_enter Tryz.func66, Tryz.ntmps66
    go_wp2_with (go_at_call 89; refine (pLayer_any s _ hV).mono ?_; rw [← hi]; rintro e w2 ⟨rfl, rfl⟩)
    go_ret2
    rw [hr.out.1, hr.out.2, ← hv.out]; first | exact ⟨rfl, Ext.refl _⟩ | (rw [hi]; exact ⟨rfl, Ext.refl _⟩)

set_option maxRecDepth 100000 in
set_option maxHeartbeats 4000000 in
theorem pWord2 (s : ByteArray) (l : List CeD) (B : Nat) (w : World) (hV : Vrs w) (hs : s.size ≤ 1048576) :
    WdC 66 #[.pointer (some ⟨B, 0, none⟩), .int .u8 111, .string s] l 2 s w := by
  unfold WdC
  obtain ⟨i, hi⟩ : ∃ i, i = idx (eqW s) oriL := ⟨_, rfl⟩
  have hlo : -1 ≤ i := by rw [hi]; exact idx_lo _ _
  by_cases h0 : i < 0
  · have hr := hid (wW_no (l := l) (k := 2) (s := s) (c := 5) (by unfold wC; exact if_pos (by rw [← hi]; exact h0)) (by decide))
    have h1 : ¬ (0 ≤ i) := by omega
    go_enter Tryz.func66, Tryz.ntmps66
    go_wp2_with (go_at_call 90; refine (pOri_any s _ hV).mono ?_; rw [← hi]; rintro e w2 ⟨rfl, rfl⟩)
    go_ret2
    rw [hr.out.1, hr.out.2]; exact ⟨rfl, Ext.refl _⟩
  · have hr := hid (wW_ok (l := l) (k := 2) (s := s) (by unfold wC; exact if_neg (by rw [← hi]; exact h0)))
    have h1 : 0 ≤ i := by omega
    have hv : Hid (i = wN l 2 s) := hid hi
    go_enter Tryz.func66, Tryz.ntmps66
    go_wp2_with (go_at_call 90; refine (pOri_any s _ hV).mono ?_; rw [← hi]; rintro e w2 ⟨rfl, rfl⟩)
    go_ret2
    rw [hr.out.1, hr.out.2, ← hv.out]; first | exact ⟨rfl, Ext.refl _⟩ | (rw [hi]; exact ⟨rfl, Ext.refl _⟩)

set_option maxRecDepth 100000 in
set_option maxHeartbeats 4000000 in
theorem pWord0 (s : ByteArray) (l : List CeD) (p : Option Addr) (n c base B : Nat) (w : World) (hV : Vrs w) (h : SlD CeR 4 base w p n l) (hn : n ≤ 1048576) (hc0 : w.cell? ⟨B, 0, none⟩ = some (.slice p n c)) (hBl : B < w.heap.size) (hs : s.size ≤ 1048576) :
    WdC 66 #[.pointer (some ⟨B, 0, none⟩), .int .u8 99, .string s] l 0 s w := by
  unfold WdC
  have hcall : Hid (Calls Tryz.prog 30 #[.agg #[.slice p n c], .string s] w fun e w' => e = .returned (.int .i64 (idx (eqN s) l)) ∧ Ext w w') := named_any p n c base l s w h hn
  obtain ⟨i, hi⟩ : ∃ i, i = idx (eqN s) l := ⟨_, rfl⟩
  have hlo : -1 ≤ i := by rw [hi]; exact idx_lo _ _
  by_cases h0 : i < 0
  · have hr := hid (wW_no (l := l) (k := 0) (s := s) (c := 5) (by unfold wC; exact if_pos (by rw [← hi]; exact h0)) (by decide))
    have h1 : ¬ (0 ≤ i) := by omega
    go_enter Tryz.func66, Tryz.ntmps66
    go_wp2_with (go_at_call 30; refine (hcall.out).mono ?_; rw [← hi]; rintro e w2 ⟨rfl, E2⟩)
    go_ret2
    rw [hr.out.1, hr.out.2]; exact ⟨rfl, E2⟩
  · have hr := hid (wW_ok (l := l) (k := 0) (s := s) (by unfold wC; exact if_neg (by rw [← hi]; exact h0)))
    have h1 : 0 ≤ i := by omega
    have hv : Hid (i = wN l 0 s) := hid hi
    go_enter Tryz.func66, Tryz.ntmps66
    go_wp2_with (go_at_call 30; refine (hcall.out).mono ?_; rw [← hi]; rintro e w2 ⟨rfl, E2⟩)
    go_ret2
    rw [hr.out.1, hr.out.2, ← hv.out]; first | exact ⟨rfl, E2⟩ | (rw [hi]; exact ⟨rfl, E2⟩)

set_option maxRecDepth 100000 in
set_option maxHeartbeats 4000000 in
theorem pWord3 (s : ByteArray) (l : List CeD) (B : Nat) (w : World) (hV : Vrs w) (hs : s.size ≤ 1048576) :
    WdC 66 #[.pointer (some ⟨B, 0, none⟩), .int .u8 110, .string s] l 3 s w := by
  unfold WdC
  have hc := pShort_any s w hV hs
  cases hb : (nmV s).isSome with
  | false =>
    rw [hb] at hc
    have hr := hid (wW_no (l := l) (k := 3) (s := s) (c := 4) (by unfold wC; exact if_neg (by rw [hb]; simp)) (by decide))
    replace hc := hid hc
    clear hb
    go_enter Tryz.func66, Tryz.ntmps66
    go_wp2_with (go_at_call 91; refine hc.out.mono ?_; rintro e w2 ⟨v, rfl, hv, E2⟩)
    go_ret2
    rw [hr.out.1, hr.out.2]
    exact ⟨rfl, E2⟩
  | true =>
    rw [hb] at hc
    have hr := hid (wW_ok (l := l) (k := 3) (s := s) (by unfold wC; exact if_pos hb))
    have hw : Hid (∀ v : Int, (∀ n, nmV s = some n → v = n) → v = wN l 3 s) := fun v hv => by
      obtain ⟨m, hm⟩ := Option.isSome_iff_exists.1 hb
      rw [hv m hm]
      show m = (nmV s).getD 0
      rw [hm]; rfl
    replace hc := hid hc
    clear hb
    go_enter Tryz.func66, Tryz.ntmps66
    go_wp2_with (go_at_call 91; refine hc.out.mono ?_; rintro e w2 ⟨v, rfl, hv, E2⟩; replace hv := hid hv)
    go_ret2
    rw [hr.out.1, hr.out.2, ← hw.out _ hv.out]
    exact ⟨rfl, E2⟩

set_option maxRecDepth 100000 in
set_option maxHeartbeats 4000000 in
theorem pWord4 (s : ByteArray) (l : List CeD) (B : Nat) (w : World) (hV : Vrs w) (hs : s.size ≤ 1048576) :
    WdC 66 #[.pointer (some ⟨B, 0, none⟩), .int .u8 78, .string s] l 4 s w := by
  unfold WdC
  have hc := pName_any s w (by omega)
  cases hb : nameB s with
  | false =>
    rw [hb] at hc
    have hr := hid (wW_no (l := l) (k := 4) (s := s) (c := 4) (by unfold wC; exact if_neg (by rw [hb]; simp)) (by decide))
    replace hc := hid hc
    clear hb
    go_enter Tryz.func66, Tryz.ntmps66
    go_wp2_with (go_at_call 54; refine hc.out.mono ?_; rintro e w2 ⟨rfl, E2⟩)
    go_ret2
    rw [hr.out.1, hr.out.2]
    exact ⟨rfl, E2⟩
  | true =>
    rw [hb] at hc
    have hr := hid (wW_ok (l := l) (k := 4) (s := s) (by unfold wC; exact if_pos hb))
    replace hc := hid hc
    clear hb
    go_enter Tryz.func66, Tryz.ntmps66
    go_wp2_with (go_at_call 54; refine hc.out.mono ?_; rintro e w2 ⟨rfl, E2⟩)
    go_ret2
    rw [hr.out.1, hr.out.2]
    exact ⟨rfl, E2⟩

theorem pWord_any (k : Nat) (s : ByteArray) (l : List CeD) (p : Option Addr) (n c base B : Nat) (w : World) (hV : Vrs w) (h : SlD CeR 4 base w p n l) (hn : n ≤ 1048576) (hc0 : w.cell? ⟨B, 0, none⟩ = some (.slice p n c)) (hBl : B < w.heap.size) (hs : s.size ≤ 1048576) (hk : k < 5) (ch : Int) (hch : ch = chP k) :
    WdC 66 #[.pointer (some ⟨B, 0, none⟩), .int .u8 ch, .string s] l k s w := by
  subst hch
  match k, hk with
  | 0, _ => exact pWord0 s l p n c base B w hV h hn hc0 hBl hs
  | 1, _ => exact pWord1 s l B w hV hs
  | 2, _ => exact pWord2 s l B w hV hs
  | 3, _ => exact pWord3 s l B w hV hs
  | 4, _ => exact pWord4 s l B w hV hs

set_option maxRecDepth 100000 in
set_option maxHeartbeats 4000000 in
theorem rWord1 (s : ByteArray) (l : List CeD) (p : Option Addr) (n c base : Nat) (w : World) (h : SlD CeR 4 base w p n l) (hn : n ≤ 1048576) (hf : ∀ x ∈ l, FitCe x) (hB : libB l = true) (hs : s.size ≤ 1048576) :
    WdC 46 #[.agg #[.slice p n c], .int .u8 76, .string s] l 1 s w := by
  unfold WdC
  obtain ⟨i, hi⟩ : ∃ i, i = idx (eqW s) layL := ⟨_, rfl⟩
  have hlo : -1 ≤ i := by rw [hi]; exact idx_lo _ _
  by_cases h0 : i < 0
  · have hr := hid (wW_no (l := l) (k := 1) (s := s) (c := 5) (by unfold wC; exact if_pos (by rw [← hi]; exact h0)) (by decide))
    have h1 : ¬ (0 ≤ i) := by omega
    go_enter Tryz.func46, Tryz.ntmps46
    go_upto_region 1 with (fail)
    generalize hW : World.alloc _ _ = W0
    obtain ⟨E0, z0, b0⟩ := boxes1 hW
    clear hW z0
    replace b0 := hid (show Blk W0 (w.heap.size) [_] _ from b0)
    have g0 := b0.out.cells
    have l0 := b0.out.lt
    have E := Ext.refl W0
    go_wp2_with (go_at_call 77; refine (rLayer_any s _).mono ?_; try rw [← hi]; rintro e w2 ⟨rfl, E2⟩)
    go_ret2
    rw [hr.out.1, hr.out.2]; exact ⟨rfl, (E0.trans (E.trans E2))⟩
  · have hr := hid (wW_ok (l := l) (k := 1) (s := s) (by unfold wC; exact if_neg (by rw [← hi]; exact h0)))
    have h1 : 0 ≤ i := by omega
    have hv : Hid (i = wN l 1 s) := hid hi
    go_enter Tryz.func46, Tryz.ntmps46
    go_upto_region 1 with (fail)
    generalize hW : World.alloc _ _ = W0
    obtain ⟨E0, z0, b0⟩ := boxes1 hW
    clear hW z0
    replace b0 := hid (show Blk W0 (w.heap.size) [_] _ from b0)
    have g0 := b0.out.cells
    have l0 := b0.out.lt
    have E := Ext.refl W0
    go_wp2_with (go_at_call 77; refine (rLayer_any s _).mono ?_; try rw [← hi]; rintro e w2 ⟨rfl, E2⟩)
    go_ret2
    rw [hr.out.1, hr.out.2, ← hv.out]; first | exact ⟨rfl, (E0.trans (E.trans E2))⟩ | (rw [hi]; exact ⟨rfl, (E0.trans (E.trans E2))⟩)

set_option maxRecDepth 100000 in
set_option maxHeartbeats 4000000 in
theorem rWord2 (s : ByteArray) (l : List CeD) (p : Option Addr) (n c base : Nat) (w : World) (h : SlD CeR 4 base w p n l) (hn : n ≤ 1048576) (hf : ∀ x ∈ l, FitCe x) (hB : libB l = true) (hs : s.size ≤ 1048576) :
    WdC 46 #[.agg #[.slice p n c], .int .u8 79, .string s] l 2 s w := by
  unfold WdC
  obtain ⟨i, hi⟩ : ∃ i, i = idx (eqW s) oriL := ⟨_, rfl⟩
  have hlo : -1 ≤ i := by rw [hi]; exact idx_lo _ _
  by_cases h0 : i < 0
  · have hr := hid (wW_no (l := l) (k := 2) (s := s) (c := 5) (by unfold wC; exact if_pos (by rw [← hi]; exact h0)) (by decide))
    have h1 : ¬ (0 ≤ i) := by omega
    go_enter Tryz.func46, Tryz.ntmps46
    go_upto_region 1 with (fail)
    generalize hW : World.alloc _ _ = W0
    obtain ⟨E0, z0, b0⟩ := boxes1 hW
    clear hW z0
    replace b0 := hid (show Blk W0 (w.heap.size) [_] _ from b0)
    have g0 := b0.out.cells
    have l0 := b0.out.lt
    have E := Ext.refl W0
    go_wp2_with (go_at_call 78; refine (rOri_any s _).mono ?_; try rw [← hi]; rintro e w2 ⟨rfl, E2⟩)
    go_ret2
    rw [hr.out.1, hr.out.2]; exact ⟨rfl, (E0.trans (E.trans E2))⟩
  · have hr := hid (wW_ok (l := l) (k := 2) (s := s) (by unfold wC; exact if_neg (by rw [← hi]; exact h0)))
    have h1 : 0 ≤ i := by omega
    have hv : Hid (i = wN l 2 s) := hid hi
    go_enter Tryz.func46, Tryz.ntmps46
    go_upto_region 1 with (fail)
    generalize hW : World.alloc _ _ = W0
    obtain ⟨E0, z0, b0⟩ := boxes1 hW
    clear hW z0
    replace b0 := hid (show Blk W0 (w.heap.size) [_] _ from b0)
    have g0 := b0.out.cells
    have l0 := b0.out.lt
    have E := Ext.refl W0
    go_wp2_with (go_at_call 78; refine (rOri_any s _).mono ?_; try rw [← hi]; rintro e w2 ⟨rfl, E2⟩)
    go_ret2
    rw [hr.out.1, hr.out.2, ← hv.out]; first | exact ⟨rfl, (E0.trans (E.trans E2))⟩ | (rw [hi]; exact ⟨rfl, (E0.trans (E.trans E2))⟩)

set_option maxRecDepth 100000 in
set_option maxHeartbeats 4000000 in
theorem rWord0 (s : ByteArray) (l : List CeD) (p : Option Addr) (n c base : Nat) (w : World) (h : SlD CeR 4 base w p n l) (hn : n ≤ 1048576) (hf : ∀ x ∈ l, FitCe x) (hB : libB l = true) (hs : s.size ≤ 1048576) :
    WdC 46 #[.agg #[.slice p n c], .int .u8 67, .string s] l 0 s w := by
  unfold WdC
  obtain ⟨i, hi⟩ : ∃ i, i = idx (eqN s) l := ⟨_, rfl⟩
  have hlo : -1 ≤ i := by rw [hi]; exact idx_lo _ _
  by_cases h0 : i < 0
  · have hr := hid (wW_no (l := l) (k := 0) (s := s) (c := 5) (by unfold wC; exact if_pos (by rw [← hi]; exact h0)) (by decide))
    have h1 : ¬ (0 ≤ i) := by omega
    go_enter Tryz.func46, Tryz.ntmps46
    go_upto_region 1 with (fail)
    generalize hW : World.alloc _ _ = W0
    obtain ⟨E0, z0, b0⟩ := boxes1 hW
    clear hW z0
    replace b0 := hid (show Blk W0 (w.heap.size) [_] _ from b0)
    have g0 := b0.out.cells
    have l0 := b0.out.lt
    have E := Ext.refl W0
    go_wp2_with (go_at_call 76; refine (rCellIx_any p n c base l s _ (h.ext CeR.ok (E0.trans E)) hn hf hB).mono ?_; try rw [← hi]; rintro e w2 ⟨rfl, E2⟩)
    go_ret2
    rw [hr.out.1, hr.out.2]; exact ⟨rfl, (E0.trans (E.trans E2))⟩
  · have hr := hid (wW_ok (l := l) (k := 0) (s := s) (by unfold wC; exact if_neg (by rw [← hi]; exact h0)))
    have h1 : 0 ≤ i := by omega
    have hv : Hid (i = wN l 0 s) := hid hi
    go_enter Tryz.func46, Tryz.ntmps46
    go_upto_region 1 with (fail)
    generalize hW : World.alloc _ _ = W0
    obtain ⟨E0, z0, b0⟩ := boxes1 hW
    clear hW z0
    replace b0 := hid (show Blk W0 (w.heap.size) [_] _ from b0)
    have g0 := b0.out.cells
    have l0 := b0.out.lt
    have E := Ext.refl W0
    go_wp2_with (go_at_call 76; refine (rCellIx_any p n c base l s _ (h.ext CeR.ok (E0.trans E)) hn hf hB).mono ?_; try rw [← hi]; rintro e w2 ⟨rfl, E2⟩)
    go_ret2
    rw [hr.out.1, hr.out.2, ← hv.out]; first | exact ⟨rfl, (E0.trans (E.trans E2))⟩ | (rw [hi]; exact ⟨rfl, (E0.trans (E.trans E2))⟩)

set_option maxRecDepth 100000 in
set_option maxHeartbeats 4000000 in
theorem rWord3 (s : ByteArray) (l : List CeD) (p : Option Addr) (n c base : Nat) (w : World) (h : SlD CeR 4 base w p n l) (hn : n ≤ 1048576) (hf : ∀ x ∈ l, FitCe x) (hB : libB l = true) (hs : s.size ≤ 1048576) :
    WdC 46 #[.agg #[.slice p n c], .int .u8 78, .string s] l 3 s w := by
  unfold WdC
  have hc := (fun W => rVal_any s W hs)
  cases hb : (nmV s).isSome with
  | false =>
    simp only [hb] at hc
    have hr := hid (wW_no (l := l) (k := 3) (s := s) (c := 4) (by unfold wC; exact if_neg (by rw [hb]; simp)) (by decide))
    replace hc := hid hc
    clear hb
    go_enter Tryz.func46, Tryz.ntmps46
    go_upto_region 1 with (fail)
    generalize hW : World.alloc _ _ = W0
    obtain ⟨E0, z0, b0⟩ := boxes1 hW
    clear hW z0
    replace b0 := hid (show Blk W0 (w.heap.size) [_] _ from b0)
    have g0 := b0.out.cells
    have l0 := b0.out.lt
    have E := Ext.refl W0
    go_wp2_with (go_at_call 79; refine (hc.out _).mono ?_; rintro e w2 ⟨v, rfl, hv, E2⟩)
    go_ret2
    rw [hr.out.1, hr.out.2]
    exact ⟨rfl, E0.trans (E.trans E2)⟩
  | true =>
    simp only [hb] at hc
    have hr := hid (wW_ok (l := l) (k := 3) (s := s) (by unfold wC; exact if_pos hb))
    have hw : Hid (∀ v : Int, (∀ n, nmV s = some n → v = n) → v = wN l 3 s) := fun v hv => by
      obtain ⟨m, hm⟩ := Option.isSome_iff_exists.1 hb
      rw [hv m hm]
      show m = (nmV s).getD 0
      rw [hm]; rfl
    replace hc := hid hc
    clear hb
    go_enter Tryz.func46, Tryz.ntmps46
    go_upto_region 1 with (fail)
    generalize hW : World.alloc _ _ = W0
    obtain ⟨E0, z0, b0⟩ := boxes1 hW
    clear hW z0
    replace b0 := hid (show Blk W0 (w.heap.size) [_] _ from b0)
    have g0 := b0.out.cells
    have l0 := b0.out.lt
    have E := Ext.refl W0
    go_wp2_with (go_at_call 79; refine (hc.out _).mono ?_; rintro e w2 ⟨v, rfl, hv, E2⟩; replace hv := hid hv)
    go_ret2
    rw [hr.out.1, hr.out.2, ← hw.out _ hv.out]
    exact ⟨rfl, E0.trans (E.trans E2)⟩

set_option maxRecDepth 100000 in
set_option maxHeartbeats 4000000 in
theorem rWord4 (s : ByteArray) (l : List CeD) (p : Option Addr) (n c base : Nat) (w : World) (h : SlD CeR 4 base w p n l) (hn : n ≤ 1048576) (hf : ∀ x ∈ l, FitCe x) (hB : libB l = true) (hs : s.size ≤ 1048576) :
    WdC 46 #[.agg #[.slice p n c], .int .u8 65, .string s] l 4 s w := by
  unfold WdC
  have hc := (fun W => rName_any s W (by omega))
  cases hb : nameB s with
  | false =>
    simp only [hb] at hc
    have hr := hid (wW_no (l := l) (k := 4) (s := s) (c := 4) (by unfold wC; exact if_neg (by rw [hb]; simp)) (by decide))
    replace hc := hid hc
    clear hb
    go_enter Tryz.func46, Tryz.ntmps46
    go_upto_region 1 with (fail)
    generalize hW : World.alloc _ _ = W0
    obtain ⟨E0, z0, b0⟩ := boxes1 hW
    clear hW z0
    replace b0 := hid (show Blk W0 (w.heap.size) [_] _ from b0)
    have g0 := b0.out.cells
    have l0 := b0.out.lt
    have E := Ext.refl W0
    go_wp2_with (go_at_call 41; refine (hc.out _).mono ?_; rintro e w2 ⟨rfl, E2⟩)
    go_ret2
    rw [hr.out.1, hr.out.2]
    exact ⟨rfl, E0.trans (E.trans E2)⟩
  | true =>
    simp only [hb] at hc
    have hr := hid (wW_ok (l := l) (k := 4) (s := s) (by unfold wC; exact if_pos hb))
    replace hc := hid hc
    clear hb
    go_enter Tryz.func46, Tryz.ntmps46
    go_upto_region 1 with (fail)
    generalize hW : World.alloc _ _ = W0
    obtain ⟨E0, z0, b0⟩ := boxes1 hW
    clear hW z0
    replace b0 := hid (show Blk W0 (w.heap.size) [_] _ from b0)
    have g0 := b0.out.cells
    have l0 := b0.out.lt
    have E := Ext.refl W0
    go_wp2_with (go_at_call 41; refine (hc.out _).mono ?_; rintro e w2 ⟨rfl, E2⟩)
    go_ret2
    rw [hr.out.1, hr.out.2]
    exact ⟨rfl, E0.trans (E.trans E2)⟩

theorem rWord_any (k : Nat) (s : ByteArray) (l : List CeD) (p : Option Addr) (n c base : Nat) (w : World) (h : SlD CeR 4 base w p n l) (hn : n ≤ 1048576) (hf : ∀ x ∈ l, FitCe x) (hB : libB l = true) (hs : s.size ≤ 1048576) (hk : k < 5) (ch : Int) (hch : ch = chR k) :
    WdC 46 #[.agg #[.slice p n c], .int .u8 ch, .string s] l k s w := by
  subst hch
  match k, hk with
  | 0, _ => exact rWord0 s l p n c base w h hn hf hB hs
  | 1, _ => exact rWord1 s l p n c base w h hn hf hB hs
  | 2, _ => exact rWord2 s l p n c base w h hn hf hB hs
  | 3, _ => exact rWord3 s l p n c base w h hn hf hB hs
  | 4, _ => exact rWord4 s l p n c base w h hn hf hB hs

end Go.Proofs.YtncmhefendhinaaGreatDoor
