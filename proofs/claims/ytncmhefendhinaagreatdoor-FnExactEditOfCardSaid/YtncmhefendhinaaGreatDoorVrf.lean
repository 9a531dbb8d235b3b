/- The edit that words describe, of the reference; EditOf of both. Condition: lengths that fit; the tables as they are laid; a valid library. -/
import Derived.Test.YtncmhefendhinaaGreatDoorVre
import Derived.Test.YtncmhefendhinaaGreatDoorVew
import Derived.BigRegion
import Derived.Deep.RegionHeld3
import Derived.StillTailTactics
namespace Go.Proofs.YtncmhefendhinaaGreatDoor
open Go.RowKit Go.PlainAid
set_option linter.unusedVariables false
set_option linter.unusedSimpArgs false

theorem rEditG_0 (s : ByteArray) (ws : List ByteArray) (l : List CeD) (p q q3 : Option Addr) (n c m d d3 base base2 base3 : Nat) (w : World) (h : SlD CeR 4 base w p n l) (hn : n ≤ 1048576) (hS : SlD (Fl encW) 1 base2 w q (m + 1) (s :: ws)) (hj : kwX s = some 0) (hrw : rwV l (kdJ 0) ws = 0) (hv : SlD (Fl enc1) 1 base3 w q3 (kdJ 0).length (vsV l (kdJ 0) ws)) :
    Calls Tryz.prog 26 #[.agg #[.slice p n c], .slice q (m + 1) d, .slice q3 (kdJ 0).length d3] w fun e w' => e = .returned (.agg (encEd (mkE l 0 ws (vsV l (kdJ 0) ws))).toArray) ∧ Ext w w' := by
  obtain ⟨hlen, hrf⟩ := rw_ok hrw
  have hlen2 : ws.length = 1 := hlen
  clear hlen
  obtain ⟨a1, ws1, rfl⟩ : ∃ a t, ws = a :: t := by
    cases ws with
    | nil => simp at hlen2
    | cons a t => exact ⟨a, t, rfl⟩
  obtain rfl : ws1 = [] := by
    cases ws1 with
    | nil => rfl
    | cons a t => simp at hlen2
  clear hlen2
  have hmr := hid (show m = 1 by have := hS.length; simp at this; omega)
  obtain ⟨V1, hV1⟩ : ∃ V, Hid (V = wN l 4 a1) := ⟨_, hid rfl⟩
  have hvs : Hid (vsV l (kdJ 0) [a1] = [V1]) := by
    show _ = _
    rw [hV1.out]
    rfl
  rw [hvs.out] at hv ⊢
  have hmk : mkE l 0 [a1] [V1] = ⟨8, (n : Int), 0, a1, zS, zL, zI⟩ := by show (⟨8, (l.length : Int), 0, a1, zS, zL, zI⟩ : EdD) = _; rw [h.length]
  rw [hmk]
  obtain ⟨b, off, rfl, _⟩ := slice_at hS (by omega)
  obtain ⟨bq, oq, rfl, _⟩ := slice_at hv (by decide)
  exact rEdit_0 s a1 V1 0 ⟨emp, [], [], []⟩ l p b off bq oq n c m d d3 base base2 base3 w h hn hS hv hj

theorem rEditG_1 (s : ByteArray) (ws : List ByteArray) (l : List CeD) (p q q3 : Option Addr) (n c m d d3 base base2 base3 : Nat) (w : World) (h : SlD CeR 4 base w p n l) (hn : n ≤ 1048576) (hS : SlD (Fl encW) 1 base2 w q (m + 1) (s :: ws)) (hj : kwX s = some 1) (hrw : rwV l (kdJ 1) ws = 0) (hv : SlD (Fl enc1) 1 base3 w q3 (kdJ 1).length (vsV l (kdJ 1) ws)) :
    Calls Tryz.prog 26 #[.agg #[.slice p n c], .slice q (m + 1) d, .slice q3 (kdJ 1).length d3] w fun e w' => e = .returned (.agg (encEd (mkE l 1 ws (vsV l (kdJ 1) ws))).toArray) ∧ Ext w w' := by
  obtain ⟨hlen, hrf⟩ := rw_ok hrw
  have hlen2 : ws.length = 1 := hlen
  clear hlen
  obtain ⟨a1, ws1, rfl⟩ : ∃ a t, ws = a :: t := by
    cases ws with
    | nil => simp at hlen2
    | cons a t => exact ⟨a, t, rfl⟩
  obtain rfl : ws1 = [] := by
    cases ws1 with
    | nil => rfl
    | cons a t => simp at hlen2
  clear hlen2
  have hmr := hid (show m = 1 by have := hS.length; simp at this; omega)
  obtain ⟨kc, ce, hkc, hce⟩ := cell_at (rwF_head hrf).1
  have hV1 := hid hkc.symm
  clear hkc
  replace hce := hid hce
  have hvs : Hid (vsV l (kdJ 1) [a1] = [(kc : Int)]) := by
    show _ = _
    rw [hV1.out]
    rfl
  rw [hvs.out] at hv ⊢
  have hmk : mkE l 1 [a1] [(kc : Int)] = ⟨9, (kc : Int), 0, emp, zS, zL, zI⟩ := by rfl
  rw [hmk]
  obtain ⟨b, off, rfl, _⟩ := slice_at hS (by omega)
  obtain ⟨bq, oq, rfl, _⟩ := slice_at hv (by decide)
  exact rEdit_1 s a1 kc ce l p b off bq oq n c m d d3 base base2 base3 w h hn hS hv hj

theorem rEditG_2 (s : ByteArray) (ws : List ByteArray) (l : List CeD) (p q q3 : Option Addr) (n c m d d3 base base2 base3 : Nat) (w : World) (h : SlD CeR 4 base w p n l) (hn : n ≤ 1048576) (hS : SlD (Fl encW) 1 base2 w q (m + 1) (s :: ws)) (hj : kwX s = some 2) (hrw : rwV l (kdJ 2) ws = 0) (hv : SlD (Fl enc1) 1 base3 w q3 (kdJ 2).length (vsV l (kdJ 2) ws)) :
    Calls Tryz.prog 26 #[.agg #[.slice p n c], .slice q (m + 1) d, .slice q3 (kdJ 2).length d3] w fun e w' => e = .returned (.agg (encEd (mkE l 2 ws (vsV l (kdJ 2) ws))).toArray) ∧ Ext w w' := by
  obtain ⟨hlen, hrf⟩ := rw_ok hrw
  have hlen2 : ws.length = 2 := hlen
  clear hlen
  obtain ⟨a1, ws1, rfl⟩ : ∃ a t, ws = a :: t := by
    cases ws with
    | nil => simp at hlen2
    | cons a t => exact ⟨a, t, rfl⟩
  obtain ⟨a2, ws2, rfl⟩ : ∃ a t, ws1 = a :: t := by
    cases ws1 with
    | nil => simp at hlen2
    | cons a t => exact ⟨a, t, rfl⟩
  obtain rfl : ws2 = [] := by
    cases ws2 with
    | nil => rfl
    | cons a t => simp at hlen2
  clear hlen2
  have hmr := hid (show m = 2 by have := hS.length; simp at this; omega)
  obtain ⟨kc, ce, hkc, hce⟩ := cell_at (rwF_head hrf).1
  have hV1 := hid hkc.symm
  clear hkc
  replace hce := hid hce
  obtain ⟨V2, hV2⟩ : ∃ V, Hid (V = wN l 4 a2) := ⟨_, hid rfl⟩
  have hvs : Hid (vsV l (kdJ 2) [a1, a2] = [(kc : Int), V2]) := by
    show _ = _
    rw [hV1.out, hV2.out]
    rfl
  rw [hvs.out] at hv ⊢
  have hmk : mkE l 2 [a1, a2] [(kc : Int), V2] = ⟨7, (kc : Int), 0, a2, zS, zL, zI⟩ := by rfl
  rw [hmk]
  obtain ⟨b, off, rfl, _⟩ := slice_at hS (by omega)
  obtain ⟨bq, oq, rfl, _⟩ := slice_at hv (by decide)
  exact rEdit_2 s a1 a2 V2 kc ce l p b off bq oq n c m d d3 base base2 base3 w h hn hS hv hj

theorem rEditG_3 (s : ByteArray) (ws : List ByteArray) (l : List CeD) (p q q3 : Option Addr) (n c m d d3 base base2 base3 : Nat) (w : World) (h : SlD CeR 4 base w p n l) (hn : n ≤ 1048576) (hS : SlD (Fl encW) 1 base2 w q (m + 1) (s :: ws)) (hj : kwX s = some 3) (hrw : rwV l (kdJ 3) ws = 0) (hv : SlD (Fl enc1) 1 base3 w q3 (kdJ 3).length (vsV l (kdJ 3) ws)) :
    Calls Tryz.prog 26 #[.agg #[.slice p n c], .slice q (m + 1) d, .slice q3 (kdJ 3).length d3] w fun e w' => e = .returned (.agg (encEd (mkE l 3 ws (vsV l (kdJ 3) ws))).toArray) ∧ Ext w w' := by
  obtain ⟨hlen, hrf⟩ := rw_ok hrw
  have hlen2 : ws.length = 6 := hlen
  clear hlen
  obtain ⟨a1, ws1, rfl⟩ : ∃ a t, ws = a :: t := by
    cases ws with
    | nil => simp at hlen2
    | cons a t => exact ⟨a, t, rfl⟩
  obtain ⟨a2, ws2, rfl⟩ : ∃ a t, ws1 = a :: t := by
    cases ws1 with
    | nil => simp at hlen2
    | cons a t => exact ⟨a, t, rfl⟩
  obtain ⟨a3, ws3, rfl⟩ : ∃ a t, ws2 = a :: t := by
    cases ws2 with
    | nil => simp at hlen2
    | cons a t => exact ⟨a, t, rfl⟩
  obtain ⟨a4, ws4, rfl⟩ : ∃ a t, ws3 = a :: t := by
    cases ws3 with
    | nil => simp at hlen2
    | cons a t => exact ⟨a, t, rfl⟩
  obtain ⟨a5, ws5, rfl⟩ : ∃ a t, ws4 = a :: t := by
    cases ws4 with
    | nil => simp at hlen2
    | cons a t => exact ⟨a, t, rfl⟩
  obtain ⟨a6, ws6, rfl⟩ : ∃ a t, ws5 = a :: t := by
    cases ws5 with
    | nil => simp at hlen2
    | cons a t => exact ⟨a, t, rfl⟩
  obtain rfl : ws6 = [] := by
    cases ws6 with
    | nil => rfl
    | cons a t => simp at hlen2
  clear hlen2
  have hmr := hid (show m = 6 by have := hS.length; simp at this; omega)
  obtain ⟨kc, ce, hkc, hce⟩ := cell_at (rwF_head hrf).1
  have hV1 := hid hkc.symm
  clear hkc
  replace hce := hid hce
  obtain ⟨V2, hV2⟩ : ∃ V, Hid (V = wN l 1 a2) := ⟨_, hid rfl⟩
  obtain ⟨V3, hV3⟩ : ∃ V, Hid (V = wN l 3 a3) := ⟨_, hid rfl⟩
  obtain ⟨V4, hV4⟩ : ∃ V, Hid (V = wN l 3 a4) := ⟨_, hid rfl⟩
  obtain ⟨V5, hV5⟩ : ∃ V, Hid (V = wN l 3 a5) := ⟨_, hid rfl⟩
  obtain ⟨V6, hV6⟩ : ∃ V, Hid (V = wN l 3 a6) := ⟨_, hid rfl⟩
  have hvs : Hid (vsV l (kdJ 3) [a1, a2, a3, a4, a5, a6] = [(kc : Int), V2, V3, V4, V5, V6]) := by
    show _ = _
    rw [hV1.out, hV2.out, hV3.out, hV4.out, hV5.out, hV6.out]
    rfl
  rw [hvs.out] at hv ⊢
  have hmk : mkE l 3 [a1, a2, a3, a4, a5, a6] [(kc : Int), V2, V3, V4, V5, V6] = ⟨1, (kc : Int), (ce.shs.length : Int), emp, ⟨V2, ⟨V3, V4, V5, V6⟩⟩, zL, zI⟩ := by show (⟨1, (kc : Int), ((cAt l (kc : Int)).shs.length : Int), emp, ⟨V2, ⟨V3, V4, V5, V6⟩⟩, zL, zI⟩ : EdD) = _; rw [cAt_nat hce.out]
  rw [hmk]
  obtain ⟨b, off, rfl, _⟩ := slice_at hS (by omega)
  obtain ⟨bq, oq, rfl, _⟩ := slice_at hv (by decide)
  exact rEdit_3 s a1 a2 a3 a4 a5 a6 V2 V3 V4 V5 V6 kc ce l p b off bq oq n c m d d3 base base2 base3 w h hn hS hv hj hce.out

theorem rEditG_4 (s : ByteArray) (ws : List ByteArray) (l : List CeD) (p q q3 : Option Addr) (n c m d d3 base base2 base3 : Nat) (w : World) (h : SlD CeR 4 base w p n l) (hn : n ≤ 1048576) (hS : SlD (Fl encW) 1 base2 w q (m + 1) (s :: ws)) (hj : kwX s = some 4) (hrw : rwV l (kdJ 4) ws = 0) (hv : SlD (Fl enc1) 1 base3 w q3 (kdJ 4).length (vsV l (kdJ 4) ws)) :
    Calls Tryz.prog 26 #[.agg #[.slice p n c], .slice q (m + 1) d, .slice q3 (kdJ 4).length d3] w fun e w' => e = .returned (.agg (encEd (mkE l 4 ws (vsV l (kdJ 4) ws))).toArray) ∧ Ext w w' := by
  obtain ⟨hlen, hrf⟩ := rw_ok hrw
  have hlen2 : ws.length = 5 := hlen
  clear hlen
  obtain ⟨a1, ws1, rfl⟩ : ∃ a t, ws = a :: t := by
    cases ws with
    | nil => simp at hlen2
    | cons a t => exact ⟨a, t, rfl⟩
  obtain ⟨a2, ws2, rfl⟩ : ∃ a t, ws1 = a :: t := by
    cases ws1 with
    | nil => simp at hlen2
    | cons a t => exact ⟨a, t, rfl⟩
  obtain ⟨a3, ws3, rfl⟩ : ∃ a t, ws2 = a :: t := by
    cases ws2 with
    | nil => simp at hlen2
    | cons a t => exact ⟨a, t, rfl⟩
  obtain ⟨a4, ws4, rfl⟩ : ∃ a t, ws3 = a :: t := by
    cases ws3 with
    | nil => simp at hlen2
    | cons a t => exact ⟨a, t, rfl⟩
  obtain ⟨a5, ws5, rfl⟩ : ∃ a t, ws4 = a :: t := by
    cases ws4 with
    | nil => simp at hlen2
    | cons a t => exact ⟨a, t, rfl⟩
  obtain rfl : ws5 = [] := by
    cases ws5 with
    | nil => rfl
    | cons a t => simp at hlen2
  clear hlen2
  have hmr := hid (show m = 5 by have := hS.length; simp at this; omega)
  obtain ⟨kc, ce, hkc, hce⟩ := cell_at (rwF_head hrf).1
  have hV1 := hid hkc.symm
  clear hkc
  replace hce := hid hce
  obtain ⟨V2, hV2⟩ : ∃ V, Hid (V = wN l 1 a2) := ⟨_, hid rfl⟩
  obtain ⟨V3, hV3⟩ : ∃ V, Hid (V = wN l 3 a3) := ⟨_, hid rfl⟩
  obtain ⟨V4, hV4⟩ : ∃ V, Hid (V = wN l 3 a4) := ⟨_, hid rfl⟩
  obtain ⟨V5, hV5⟩ : ∃ V, Hid (V = wN l 4 a5) := ⟨_, hid rfl⟩
  have hvs : Hid (vsV l (kdJ 4) [a1, a2, a3, a4, a5] = [(kc : Int), V2, V3, V4, V5]) := by
    show _ = _
    rw [hV1.out, hV2.out, hV3.out, hV4.out, hV5.out]
    rfl
  rw [hvs.out] at hv ⊢
  have hmk : mkE l 4 [a1, a2, a3, a4, a5] [(kc : Int), V2, V3, V4, V5] = ⟨3, (kc : Int), (ce.lbs.length : Int), emp, zS, ⟨V2, ⟨V3, V4⟩, a5⟩, zI⟩ := by show (⟨3, (kc : Int), ((cAt l (kc : Int)).lbs.length : Int), emp, zS, ⟨V2, ⟨V3, V4⟩, a5⟩, zI⟩ : EdD) = _; rw [cAt_nat hce.out]
  rw [hmk]
  obtain ⟨b, off, rfl, _⟩ := slice_at hS (by omega)
  obtain ⟨bq, oq, rfl, _⟩ := slice_at hv (by decide)
  exact rEdit_4 s a1 a2 a3 a4 a5 V2 V3 V4 V5 kc ce l p b off bq oq n c m d d3 base base2 base3 w h hn hS hv hj hce.out

theorem rEditG_5 (s : ByteArray) (ws : List ByteArray) (l : List CeD) (p q q3 : Option Addr) (n c m d d3 base base2 base3 : Nat) (w : World) (h : SlD CeR 4 base w p n l) (hn : n ≤ 1048576) (hS : SlD (Fl encW) 1 base2 w q (m + 1) (s :: ws)) (hj : kwX s = some 5) (hrw : rwV l (kdJ 5) ws = 0) (hv : SlD (Fl enc1) 1 base3 w q3 (kdJ 5).length (vsV l (kdJ 5) ws)) :
    Calls Tryz.prog 26 #[.agg #[.slice p n c], .slice q (m + 1) d, .slice q3 (kdJ 5).length d3] w fun e w' => e = .returned (.agg (encEd (mkE l 5 ws (vsV l (kdJ 5) ws))).toArray) ∧ Ext w w' := by
  obtain ⟨hlen, hrf⟩ := rw_ok hrw
  have hlen2 : ws.length = 5 := hlen
  clear hlen
  obtain ⟨a1, ws1, rfl⟩ : ∃ a t, ws = a :: t := by
    cases ws with
    | nil => simp at hlen2
    | cons a t => exact ⟨a, t, rfl⟩
  obtain ⟨a2, ws2, rfl⟩ : ∃ a t, ws1 = a :: t := by
    cases ws1 with
    | nil => simp at hlen2
    | cons a t => exact ⟨a, t, rfl⟩
  obtain ⟨a3, ws3, rfl⟩ : ∃ a t, ws2 = a :: t := by
    cases ws2 with
    | nil => simp at hlen2
    | cons a t => exact ⟨a, t, rfl⟩
  obtain ⟨a4, ws4, rfl⟩ : ∃ a t, ws3 = a :: t := by
    cases ws3 with
    | nil => simp at hlen2
    | cons a t => exact ⟨a, t, rfl⟩
  obtain ⟨a5, ws5, rfl⟩ : ∃ a t, ws4 = a :: t := by
    cases ws4 with
    | nil => simp at hlen2
    | cons a t => exact ⟨a, t, rfl⟩
  obtain rfl : ws5 = [] := by
    cases ws5 with
    | nil => rfl
    | cons a t => simp at hlen2
  clear hlen2
  have hmr := hid (show m = 5 by have := hS.length; simp at this; omega)
  obtain ⟨kc, ce, hkc, hce⟩ := cell_at (rwF_head hrf).1
  have hV1 := hid hkc.symm
  clear hkc
  replace hce := hid hce
  obtain ⟨V2, hV2⟩ : ∃ V, Hid (V = wN l 0 a2) := ⟨_, hid rfl⟩
  obtain ⟨V3, hV3⟩ : ∃ V, Hid (V = wN l 2 a3) := ⟨_, hid rfl⟩
  obtain ⟨V4, hV4⟩ : ∃ V, Hid (V = wN l 3 a4) := ⟨_, hid rfl⟩
  obtain ⟨V5, hV5⟩ : ∃ V, Hid (V = wN l 3 a5) := ⟨_, hid rfl⟩
  have hvs : Hid (vsV l (kdJ 5) [a1, a2, a3, a4, a5] = [(kc : Int), V2, V3, V4, V5]) := by
    show _ = _
    rw [hV1.out, hV2.out, hV3.out, hV4.out, hV5.out]
    rfl
  rw [hvs.out] at hv ⊢
  have hmk : mkE l 5 [a1, a2, a3, a4, a5] [(kc : Int), V2, V3, V4, V5] = ⟨5, (kc : Int), (ce.ins.length : Int), emp, zS, zL, ⟨V2, ⟨V3, V4, V5⟩, 1, 1, 0, 0⟩⟩ := by show (⟨5, (kc : Int), ((cAt l (kc : Int)).ins.length : Int), emp, zS, zL, ⟨V2, ⟨V3, V4, V5⟩, 1, 1, 0, 0⟩⟩ : EdD) = _; rw [cAt_nat hce.out]
  rw [hmk]
  obtain ⟨b, off, rfl, _⟩ := slice_at hS (by omega)
  obtain ⟨bq, oq, rfl, _⟩ := slice_at hv (by decide)
  exact rEdit_5 s a1 a2 a3 a4 a5 V2 V3 V4 V5 kc ce l p b off bq oq n c m d d3 base base2 base3 w h hn hS hv hj hce.out

theorem rEditG_6 (s : ByteArray) (ws : List ByteArray) (l : List CeD) (p q q3 : Option Addr) (n c m d d3 base base2 base3 : Nat) (w : World) (h : SlD CeR 4 base w p n l) (hn : n ≤ 1048576) (hS : SlD (Fl encW) 1 base2 w q (m + 1) (s :: ws)) (hj : kwX s = some 6) (hrw : rwV l (kdJ 6) ws = 0) (hv : SlD (Fl enc1) 1 base3 w q3 (kdJ 6).length (vsV l (kdJ 6) ws)) :
    Calls Tryz.prog 26 #[.agg #[.slice p n c], .slice q (m + 1) d, .slice q3 (kdJ 6).length d3] w fun e w' => e = .returned (.agg (encEd (mkE l 6 ws (vsV l (kdJ 6) ws))).toArray) ∧ Ext w w' := by
  obtain ⟨hlen, hrf⟩ := rw_ok hrw
  have hlen2 : ws.length = 9 := hlen
  clear hlen
  obtain ⟨a1, ws1, rfl⟩ : ∃ a t, ws = a :: t := by
    cases ws with
    | nil => simp at hlen2
    | cons a t => exact ⟨a, t, rfl⟩
  obtain ⟨a2, ws2, rfl⟩ : ∃ a t, ws1 = a :: t := by
    cases ws1 with
    | nil => simp at hlen2
    | cons a t => exact ⟨a, t, rfl⟩
  obtain ⟨a3, ws3, rfl⟩ : ∃ a t, ws2 = a :: t := by
    cases ws2 with
    | nil => simp at hlen2
    | cons a t => exact ⟨a, t, rfl⟩
  obtain ⟨a4, ws4, rfl⟩ : ∃ a t, ws3 = a :: t := by
    cases ws3 with
    | nil => simp at hlen2
    | cons a t => exact ⟨a, t, rfl⟩
  obtain ⟨a5, ws5, rfl⟩ : ∃ a t, ws4 = a :: t := by
    cases ws4 with
    | nil => simp at hlen2
    | cons a t => exact ⟨a, t, rfl⟩
  obtain ⟨a6, ws6, rfl⟩ : ∃ a t, ws5 = a :: t := by
    cases ws5 with
    | nil => simp at hlen2
    | cons a t => exact ⟨a, t, rfl⟩
  obtain ⟨a7, ws7, rfl⟩ : ∃ a t, ws6 = a :: t := by
    cases ws6 with
    | nil => simp at hlen2
    | cons a t => exact ⟨a, t, rfl⟩
  obtain ⟨a8, ws8, rfl⟩ : ∃ a t, ws7 = a :: t := by
    cases ws7 with
    | nil => simp at hlen2
    | cons a t => exact ⟨a, t, rfl⟩
  obtain ⟨a9, ws9, rfl⟩ : ∃ a t, ws8 = a :: t := by
    cases ws8 with
    | nil => simp at hlen2
    | cons a t => exact ⟨a, t, rfl⟩
  obtain rfl : ws9 = [] := by
    cases ws9 with
    | nil => rfl
    | cons a t => simp at hlen2
  clear hlen2
  have hmr := hid (show m = 9 by have := hS.length; simp at this; omega)
  obtain ⟨kc, ce, hkc, hce⟩ := cell_at (rwF_head hrf).1
  have hV1 := hid hkc.symm
  clear hkc
  replace hce := hid hce
  obtain ⟨V2, hV2⟩ : ∃ V, Hid (V = wN l 0 a2) := ⟨_, hid rfl⟩
  obtain ⟨V3, hV3⟩ : ∃ V, Hid (V = wN l 2 a3) := ⟨_, hid rfl⟩
  obtain ⟨V4, hV4⟩ : ∃ V, Hid (V = wN l 3 a4) := ⟨_, hid rfl⟩
  obtain ⟨V5, hV5⟩ : ∃ V, Hid (V = wN l 3 a5) := ⟨_, hid rfl⟩
  obtain ⟨V6, hV6⟩ : ∃ V, Hid (V = wN l 3 a6) := ⟨_, hid rfl⟩
  obtain ⟨V7, hV7⟩ : ∃ V, Hid (V = wN l 3 a7) := ⟨_, hid rfl⟩
  obtain ⟨V8, hV8⟩ : ∃ V, Hid (V = wN l 3 a8) := ⟨_, hid rfl⟩
  obtain ⟨V9, hV9⟩ : ∃ V, Hid (V = wN l 3 a9) := ⟨_, hid rfl⟩
  have hvs : Hid (vsV l (kdJ 6) [a1, a2, a3, a4, a5, a6, a7, a8, a9] = [(kc : Int), V2, V3, V4, V5, V6, V7, V8, V9]) := by
    show _ = _
    rw [hV1.out, hV2.out, hV3.out, hV4.out, hV5.out, hV6.out, hV7.out, hV8.out, hV9.out]
    rfl
  rw [hvs.out] at hv ⊢
  have hmk : mkE l 6 [a1, a2, a3, a4, a5, a6, a7, a8, a9] [(kc : Int), V2, V3, V4, V5, V6, V7, V8, V9] = ⟨5, (kc : Int), (ce.ins.length : Int), emp, zS, zL, ⟨V2, ⟨V3, V4, V5⟩, V6, V7, V8, V9⟩⟩ := by show (⟨5, (kc : Int), ((cAt l (kc : Int)).ins.length : Int), emp, zS, zL, ⟨V2, ⟨V3, V4, V5⟩, V6, V7, V8, V9⟩⟩ : EdD) = _; rw [cAt_nat hce.out]
  rw [hmk]
  obtain ⟨b, off, rfl, _⟩ := slice_at hS (by omega)
  obtain ⟨bq, oq, rfl, _⟩ := slice_at hv (by decide)
  exact rEdit_6 s a1 a2 a3 a4 a5 a6 a7 a8 a9 V2 V3 V4 V5 V6 V7 V8 V9 kc ce l p b off bq oq n c m d d3 base base2 base3 w h hn hS hv hj hce.out

theorem rEditG_7 (s : ByteArray) (ws : List ByteArray) (l : List CeD) (p q q3 : Option Addr) (n c m d d3 base base2 base3 : Nat) (w : World) (h : SlD CeR 4 base w p n l) (hn : n ≤ 1048576) (hS : SlD (Fl encW) 1 base2 w q (m + 1) (s :: ws)) (hj : kwX s = some 7) (hrw : rwV l (kdJ 7) ws = 0) (hv : SlD (Fl enc1) 1 base3 w q3 (kdJ 7).length (vsV l (kdJ 7) ws)) :
    Calls Tryz.prog 26 #[.agg #[.slice p n c], .slice q (m + 1) d, .slice q3 (kdJ 7).length d3] w fun e w' => e = .returned (.agg (encEd (mkE l 7 ws (vsV l (kdJ 7) ws))).toArray) ∧ Ext w w' := by
  obtain ⟨hlen, hrf⟩ := rw_ok hrw
  have hlen2 : ws.length = 2 := hlen
  clear hlen
  obtain ⟨a1, ws1, rfl⟩ : ∃ a t, ws = a :: t := by
    cases ws with
    | nil => simp at hlen2
    | cons a t => exact ⟨a, t, rfl⟩
  obtain ⟨a2, ws2, rfl⟩ : ∃ a t, ws1 = a :: t := by
    cases ws1 with
    | nil => simp at hlen2
    | cons a t => exact ⟨a, t, rfl⟩
  obtain rfl : ws2 = [] := by
    cases ws2 with
    | nil => rfl
    | cons a t => simp at hlen2
  clear hlen2
  have hmr := hid (show m = 2 by have := hS.length; simp at this; omega)
  obtain ⟨kc, ce, hkc, hce⟩ := cell_at (rwF_head hrf).1
  have hV1 := hid hkc.symm
  clear hkc
  replace hce := hid hce
  obtain ⟨V2, hV2⟩ : ∃ V, Hid (V = wN l 3 a2) := ⟨_, hid rfl⟩
  have hvs : Hid (vsV l (kdJ 7) [a1, a2] = [(kc : Int), V2]) := by
    show _ = _
    rw [hV1.out, hV2.out]
    rfl
  rw [hvs.out] at hv ⊢
  have hmk : mkE l 7 [a1, a2] [(kc : Int), V2] = ⟨2, (kc : Int), V2, emp, zS, zL, zI⟩ := by show (⟨2, (kc : Int), V2, emp, zS, zL, zI⟩ : EdD) = _; rfl
  rw [hmk]
  obtain ⟨b, off, rfl, _⟩ := slice_at hS (by omega)
  obtain ⟨bq, oq, rfl, _⟩ := slice_at hv (by decide)
  exact rEdit_7 s a1 a2 V2 kc ce l p b off bq oq n c m d d3 base base2 base3 w h hn hS hv hj hce.out

theorem rEditG_8 (s : ByteArray) (ws : List ByteArray) (l : List CeD) (p q q3 : Option Addr) (n c m d d3 base base2 base3 : Nat) (w : World) (h : SlD CeR 4 base w p n l) (hn : n ≤ 1048576) (hS : SlD (Fl encW) 1 base2 w q (m + 1) (s :: ws)) (hj : kwX s = some 8) (hrw : rwV l (kdJ 8) ws = 0) (hv : SlD (Fl enc1) 1 base3 w q3 (kdJ 8).length (vsV l (kdJ 8) ws)) :
    Calls Tryz.prog 26 #[.agg #[.slice p n c], .slice q (m + 1) d, .slice q3 (kdJ 8).length d3] w fun e w' => e = .returned (.agg (encEd (mkE l 8 ws (vsV l (kdJ 8) ws))).toArray) ∧ Ext w w' := by
  obtain ⟨hlen, hrf⟩ := rw_ok hrw
  have hlen2 : ws.length = 2 := hlen
  clear hlen
  obtain ⟨a1, ws1, rfl⟩ : ∃ a t, ws = a :: t := by
    cases ws with
    | nil => simp at hlen2
    | cons a t => exact ⟨a, t, rfl⟩
  obtain ⟨a2, ws2, rfl⟩ : ∃ a t, ws1 = a :: t := by
    cases ws1 with
    | nil => simp at hlen2
    | cons a t => exact ⟨a, t, rfl⟩
  obtain rfl : ws2 = [] := by
    cases ws2 with
    | nil => rfl
    | cons a t => simp at hlen2
  clear hlen2
  have hmr := hid (show m = 2 by have := hS.length; simp at this; omega)
  obtain ⟨kc, ce, hkc, hce⟩ := cell_at (rwF_head hrf).1
  have hV1 := hid hkc.symm
  clear hkc
  replace hce := hid hce
  obtain ⟨V2, hV2⟩ : ∃ V, Hid (V = wN l 3 a2) := ⟨_, hid rfl⟩
  have hvs : Hid (vsV l (kdJ 8) [a1, a2] = [(kc : Int), V2]) := by
    show _ = _
    rw [hV1.out, hV2.out]
    rfl
  rw [hvs.out] at hv ⊢
  have hmk : mkE l 8 [a1, a2] [(kc : Int), V2] = ⟨4, (kc : Int), V2, emp, zS, zL, zI⟩ := by show (⟨4, (kc : Int), V2, emp, zS, zL, zI⟩ : EdD) = _; rfl
  rw [hmk]
  obtain ⟨b, off, rfl, _⟩ := slice_at hS (by omega)
  obtain ⟨bq, oq, rfl, _⟩ := slice_at hv (by decide)
  exact rEdit_8 s a1 a2 V2 kc ce l p b off bq oq n c m d d3 base base2 base3 w h hn hS hv hj hce.out

theorem rEditG_9 (s : ByteArray) (ws : List ByteArray) (l : List CeD) (p q q3 : Option Addr) (n c m d d3 base base2 base3 : Nat) (w : World) (h : SlD CeR 4 base w p n l) (hn : n ≤ 1048576) (hS : SlD (Fl encW) 1 base2 w q (m + 1) (s :: ws)) (hj : kwX s = some 9) (hrw : rwV l (kdJ 9) ws = 0) (hv : SlD (Fl enc1) 1 base3 w q3 (kdJ 9).length (vsV l (kdJ 9) ws)) :
    Calls Tryz.prog 26 #[.agg #[.slice p n c], .slice q (m + 1) d, .slice q3 (kdJ 9).length d3] w fun e w' => e = .returned (.agg (encEd (mkE l 9 ws (vsV l (kdJ 9) ws))).toArray) ∧ Ext w w' := by
  obtain ⟨hlen, hrf⟩ := rw_ok hrw
  have hlen2 : ws.length = 2 := hlen
  clear hlen
  obtain ⟨a1, ws1, rfl⟩ : ∃ a t, ws = a :: t := by
    cases ws with
    | nil => simp at hlen2
    | cons a t => exact ⟨a, t, rfl⟩
  obtain ⟨a2, ws2, rfl⟩ : ∃ a t, ws1 = a :: t := by
    cases ws1 with
    | nil => simp at hlen2
    | cons a t => exact ⟨a, t, rfl⟩
  obtain rfl : ws2 = [] := by
    cases ws2 with
    | nil => rfl
    | cons a t => simp at hlen2
  clear hlen2
  have hmr := hid (show m = 2 by have := hS.length; simp at this; omega)
  obtain ⟨kc, ce, hkc, hce⟩ := cell_at (rwF_head hrf).1
  have hV1 := hid hkc.symm
  clear hkc
  replace hce := hid hce
  obtain ⟨V2, hV2⟩ : ∃ V, Hid (V = wN l 3 a2) := ⟨_, hid rfl⟩
  have hvs : Hid (vsV l (kdJ 9) [a1, a2] = [(kc : Int), V2]) := by
    show _ = _
    rw [hV1.out, hV2.out]
    rfl
  rw [hvs.out] at hv ⊢
  have hmk : mkE l 9 [a1, a2] [(kc : Int), V2] = ⟨6, (kc : Int), V2, emp, zS, zL, zI⟩ := by show (⟨6, (kc : Int), V2, emp, zS, zL, zI⟩ : EdD) = _; rfl
  rw [hmk]
  obtain ⟨b, off, rfl, _⟩ := slice_at hS (by omega)
  obtain ⟨bq, oq, rfl, _⟩ := slice_at hv (by decide)
  exact rEdit_9 s a1 a2 V2 kc ce l p b off bq oq n c m d d3 base base2 base3 w h hn hS hv hj hce.out

theorem fd_ok (j : Nat) (h : j < 10) : (fdJ j).size = (kdJ j).length ∧ (kdJ j).length ≤ 1048575 ∧ (∀ i k, (kdJ j)[i]? = some k → k < 5 ∧ bt (fdJ j) i = chR k) ∧ ¬ ((fdJ j).toList = [63]) ∧ ¬ ((fdJ j).toList = [84]) := by
  match j, h with
  | 0, _ => exact ⟨fdJ_size0, by decide, fdB0, fdT0.1, fdT0.2⟩
  | 1, _ => exact ⟨fdJ_size1, by decide, fdB1, fdT1.1, fdT1.2⟩
  | 2, _ => exact ⟨fdJ_size2, by decide, fdB2, fdT2.1, fdT2.2⟩
  | 3, _ => exact ⟨fdJ_size3, by decide, fdB3, fdT3.1, fdT3.2⟩
  | 4, _ => exact ⟨fdJ_size4, by decide, fdB4, fdT4.1, fdT4.2⟩
  | 5, _ => exact ⟨fdJ_size5, by decide, fdB5, fdT5.1, fdT5.2⟩
  | 6, _ => exact ⟨fdJ_size6, by decide, fdB6, fdT6.1, fdT6.2⟩
  | 7, _ => exact ⟨fdJ_size7, by decide, fdB7, fdT7.1, fdT7.2⟩
  | 8, _ => exact ⟨fdJ_size8, by decide, fdB8, fdT8.1, fdT8.2⟩
  | 9, _ => exact ⟨fdJ_size9, by decide, fdB9, fdT9.1, fdT9.2⟩

theorem sAt_fit {ws : List ByteArray} (h : ∀ y ∈ ws, y.size ≤ 1048576) (i : Nat) : (sAt ws i).size ≤ 9223372036854775807 := by
  unfold sAt
  cases hi : ws[i]? with
  | none => exact Nat.zero_le _
  | some y => have := h y (List.mem_of_getElem? hi); simpa using by omega
theorem mkE_fit (l : List CeD) (j : Nat) (ws : List ByteArray) (v : List Int) (h : ∀ y ∈ ws, y.size ≤ 1048576) : (mkE l j ws v).s.size ≤ 9223372036854775807 ∧ (mkE l j ws v).lb.s.size ≤ 9223372036854775807 := by
  have z : emp.size ≤ 9223372036854775807 := Nat.zero_le _
  unfold mkE
  split <;> first | exact ⟨z, z⟩ | exact ⟨sAt_fit h _, z⟩ | exact ⟨z, sAt_fit h _⟩

theorem rEditG (s : ByteArray) (ws : List ByteArray) (l : List CeD) (p q q3 : Option Addr) (n c m d d3 base base2 base3 : Nat) (w : World) (h : SlD CeR 4 base w p n l) (hn : n ≤ 1048576) (hS : SlD (Fl encW) 1 base2 w q (m + 1) (s :: ws)) (j : Nat) (hj10 : j < 10) (hj : kwX s = some j) (hrw : rwV l (kdJ j) ws = 0) (hv : SlD (Fl enc1) 1 base3 w q3 (kdJ j).length (vsV l (kdJ j) ws)) :
    Calls Tryz.prog 26 #[.agg #[.slice p n c], .slice q (m + 1) d, .slice q3 (kdJ j).length d3] w fun e w' => e = .returned (.agg (encEd (mkE l j ws (vsV l (kdJ j) ws))).toArray) ∧ Ext w w' := by
  match j, hj10, hj, hrw, hv with
  | 0, _, hj, hrw, hv => exact rEditG_0 s ws l p q q3 n c m d d3 base base2 base3 w h hn hS hj hrw hv
  | 1, _, hj, hrw, hv => exact rEditG_1 s ws l p q q3 n c m d d3 base base2 base3 w h hn hS hj hrw hv
  | 2, _, hj, hrw, hv => exact rEditG_2 s ws l p q q3 n c m d d3 base base2 base3 w h hn hS hj hrw hv
  | 3, _, hj, hrw, hv => exact rEditG_3 s ws l p q q3 n c m d d3 base base2 base3 w h hn hS hj hrw hv
  | 4, _, hj, hrw, hv => exact rEditG_4 s ws l p q q3 n c m d d3 base base2 base3 w h hn hS hj hrw hv
  | 5, _, hj, hrw, hv => exact rEditG_5 s ws l p q q3 n c m d d3 base base2 base3 w h hn hS hj hrw hv
  | 6, _, hj, hrw, hv => exact rEditG_6 s ws l p q q3 n c m d d3 base base2 base3 w h hn hS hj hrw hv
  | 7, _, hj, hrw, hv => exact rEditG_7 s ws l p q q3 n c m d d3 base base2 base3 w h hn hS hj hrw hv
  | 8, _, hj, hrw, hv => exact rEditG_8 s ws l p q q3 n c m d d3 base base2 base3 w h hn hS hj hrw hv
  | 9, _, hj, hrw, hv => exact rEditG_9 s ws l p q q3 n c m d d3 base base2 base3 w h hn hS hj hrw hv

set_option maxRecDepth 100000 in
set_option maxHeartbeats 4000000 in
theorem rEditOf_any (W : List ByteArray) (l : List CeD) (p q : Option Addr) (n c m d base base2 : Nat) (w : World) (h : SlD CeR 4 base w p n l) (hn : n ≤ 1048576) (hf : ∀ x ∈ l, FitCe x) (hB : libB l = true) (hS : SlD (Fl encW) 1 base2 w q m W) (hm : m ≤ 1048576) (hws : ∀ y ∈ W, y.size ≤ 1048576) :
    Calls Tryz.prog 13 #[.agg #[.slice p n c], .slice q m d] w fun e w' => e = .returned (.tuple #[.agg (encEd (edV l W).1).toArray, .int .i64 (edV l W).2]) ∧ Ext w w' := by
  cases W with
  | nil =>
    obtain rfl : m = 0 := by have := hS.length; simpa using this.symm
    have hr : Hid (edV l [] = (zE, 4)) := rfl
    go_enter Tryz.func13, Tryz.ntmps13
    go_upto_region 1 with (fail)
    generalize hW : World.alloc (World.alloc _ _) _ = W0
    obtain ⟨E0, z0, b0, b1⟩ := boxes2 hW
    clear hW z0
    replace b0 := hid (show Blk W0 (w.heap.size) [_] _ from b0)
    replace b1 := hid (show Blk W0 (w.heap.size + 1) (encEd zE) _ from b1)
    have r1 := hid (there_blk b1.out)
    go_wp2_with (first | (refine wpList_build rfl 39 #[] rfl [] rfl (encEd zE).toArray built_zE ?_) | ((with_reducible refine at_store ?_); refine wpList_store_mid rfl 39 (Operand.tmp 4) _ rfl (w.heap.size + 1) 0 (encEd zE).toArray rfl rfl r1.out (sz_Ed _) (one_Edit _) ?_))
    generalize hV9 : World.setCells _ _ _ _ = W9
    have kB : Blk W9 (w.heap.size + 1) (encEd zE) 39 := by rw [← hV9]; exact (b1.out.ext (Ext.refl _)).setAll (vs := encEd zE) rfl
    have hE2 : Ext w W9 := by rw [← hV9]; exact ext_setCells (by omega) _ _ _ (E0.trans (Ext.refl _))
    clear hV9
    exact bodyPost_ret (v := .tuple #[.agg (encEd zE).toArray, .int .i64 4]) (results_cell_tmp Tryz.results13 _ _ (w.heap.size + 1) 39 (encEd zE).toArray (0, 0) _ rfl kB Tryz.underlying39 rfl (sz_Ed _)) rfl ⟨by rw [hr.out], hE2⟩
  | cons s ws =>
    obtain ⟨m, rfl⟩ : ∃ k, m = k + 1 := ⟨m - 1, by have := hS.length; rw [List.length_cons] at this; omega⟩
    obtain ⟨b, off, y, hq, hbk, hx, y0⟩ := get_w hS (show 0 < m + 1 by omega)
    subst hq
    obtain rfl : s = y := by have := hx.out; simpa using this
    rw [Nat.add_zero] at y0
    clear hx
    have hm0 : (0 : Int) < (m : Int) + 1 := by omega
    have hm9 : (0 : Int) < ((m + 1 : Nat) : Int) := by omega
    have hm1 : ¬ ((m : Int) + 1 = 0) := by omega
    have hm2 : ((m : Int) + 1 == 0) = false := by simpa using hm1
    have hws2 := hid (fun y hy => hws y (List.mem_cons_of_mem s hy))
    go_enter Tryz.func13, Tryz.ntmps13
    go_upto_region 1 with (fail)
    generalize hW : World.alloc (World.alloc _ _) _ = W0
    obtain ⟨E0, z0, b0, b1⟩ := boxes2 hW
    clear hW z0
    replace b0 := hid (show Blk W0 (w.heap.size) [_] _ from b0)
    replace b1 := hid (show Blk W0 (w.heap.size + 1) (encEd zE) _ from b1)
    have g0 := b0.out.cells
    have l0 := b0.out.lt
    have y2 := (E0.cells _ _ hbk).trans y0
    have hb2 := Nat.lt_of_lt_of_le hbk E0.le
    cases hk : kwX s with
    | none =>
      have hr := hid (edV_no (l := l) (ws := ws) hk)
      have hc1 : Hid (∀ V, Calls Tryz.prog 24 #[.string s] V fun e w' => e = .returned (.bool false) ∧ Ext V w') := fun V => by
        have := rEdits_any s V
        rwa [hk] at this
      clear hk
      go_wp2_with (first | (go_at_call 24; refine (hc1.out _).mono ?_; rintro e w2 ⟨rfl, E2⟩; have r1 := hid (there_blk (b1.out.ext E2))) | (refine wpList_build rfl 39 #[] rfl [] rfl (encEd zE).toArray built_zE ?_) | ((with_reducible refine at_store ?_); refine wpList_store_mid rfl 39 (Operand.tmp 4) _ rfl (w.heap.size + 1) 0 (encEd zE).toArray rfl rfl r1.out (sz_Ed _) (one_Edit _) ?_))
      generalize hV9 : World.setCells _ _ _ _ = W9
      have kB : Blk W9 (w.heap.size + 1) (encEd zE) 39 := by rw [← hV9]; exact (b1.out.ext E2).setAll (vs := encEd zE) rfl
      have hE2 : Ext w W9 := by rw [← hV9]; exact ext_setCells (by omega) _ _ _ (E0.trans E2)
      clear hV9
      exact bodyPost_ret (v := .tuple #[.agg (encEd zE).toArray, .int .i64 4]) (results_cell_tmp Tryz.results13 _ _ (w.heap.size + 1) 39 (encEd zE).toArray (0, 0) _ rfl kB Tryz.underlying39 rfl (sz_Ed _)) rfl ⟨by rw [hr.out], hE2⟩
    | some j =>
      have hj10 : j < 10 := by
        rcases kw_cases s with ⟨h1, _⟩ | ⟨i, h1, _, h3⟩
        · rw [hk] at h1; cases h1
        · rw [hk] at h3; cases h3; exact h1
      have hc1 : Hid (∀ V, Calls Tryz.prog 24 #[.string s] V fun e w' => e = .returned (.bool true) ∧ Ext V w') := fun V => by
        have := rEdits_any s V
        rwa [hk] at this
      have hc2 : Hid (∀ V, Ext W0 V → Calls Tryz.prog 25 #[.agg #[.slice p n c], .slice (some ⟨b, off, none⟩) (m + 1) d] V fun e w' => ∃ q3 n3 d3, e = .returned (.tuple #[.slice q3 n3 d3, .int .i64 (rwV l (kdJ j) ws)]) ∧ (rwV l (kdJ j) ws = 0 → n3 = (kdJ j).length ∧ SlD (Fl enc1) 1 V.heap.size w' q3 (kdJ j).length (vsV l (kdJ j) ws)) ∧ Ext V w') := fun V hE =>
        rReadW (fdJ j) s (kdJ j) ws l p _ n c m d base base2 V (h.ext CeR.ok (E0.trans hE)) hn hf hB (hS.ext okStr (E0.trans hE)) (by omega) hws2.out (fun V2 => rFields_any s j V2 hk) (fd_ok j hj10).1 (fd_ok j hj10).2.1 (fd_ok j hj10).2.2.1 (fd_ok j hj10).2.2.2.1 (fd_ok j hj10).2.2.2.2
      replace hj10 := hid hj10
      replace hk := hid hk
      by_cases hrw : rwV l (kdJ j) ws = 0
      · have hc3 : Hid (∀ V, Ext W0 V → Calls Tryz.prog 25 #[.agg #[.slice p n c], .slice (some ⟨b, off, none⟩) (m + 1) d] V fun e w' => ∃ q3 n3 d3, e = .returned (.tuple #[.slice q3 n3 d3, .int .i64 0]) ∧ (n3 = (kdJ j).length ∧ SlD (Fl enc1) 1 V.heap.size w' q3 (kdJ j).length (vsV l (kdJ j) ws)) ∧ Ext V w') := fun V hE => by
          have h1 := hc2.out V hE
          rw [hrw] at h1
          exact h1.mono fun e w' ⟨q3, n3, d3, h2, h3, h4⟩ => ⟨q3, n3, d3, h2, h3 rfl, h4⟩
        clear hc2
        obtain ⟨EE, hEE⟩ : ∃ EE, Hid (EE = mkE l j ws (vsV l (kdJ j) ws)) := ⟨_, hid rfl⟩
        have hs2 := hid (mkE_fit l j ws (vsV l (kdJ j) ws) hws2.out)
        rw [← hEE.out] at hs2
        have hcI : Hid (∀ V, Calls Tryz.prog 27 #[.agg (encEd EE).toArray] V fun e w' => e = .returned (.bool (edP EE)) ∧ Ext V w') := fun V => rEdit_any EE.a EE.b EE.c EE.s EE.sh EE.lb EE.ins V hs2.out.1 hs2.out.2
        cases hP : edP EE with
        | true =>
          have hr := hid (edV_ok (l := l) hk.out hrw (by rw [← hEE.out]; exact hP))
          rw [← hEE.out] at hr
          rw [hP] at hcI
          clear hP
          go_wp2_with (first | (go_at_call 24; refine (hc1.out _).mono ?_; rintro e w2 ⟨rfl, E2⟩; clear g0 l0; have g0 := (b0.out.ext E2).cells; have l0 := (b0.out.ext E2).lt) | (go_at_call 25; refine (hc3.out _ E2).mono ?_; rintro e w3 ⟨q3, n3, d3, rfl, ⟨hn3, hv⟩, E3⟩; have hc4 : Hid (Calls Tryz.prog 26 #[.agg #[.slice p n c], .slice (some ⟨b, off, none⟩) (m + 1) d, .slice q3 n3 d3] w3 fun e w' => e = .returned (.agg (encEd EE).toArray) ∧ Ext w3 w') := by { rw [hn3, hEE.out]; exact rEditG s ws l p _ q3 n c m d d3 base base2 _ w3 (h.ext CeR.ok (E0.trans (E2.trans E3))) hn (hS.ext okStr (E0.trans (E2.trans E3))) j hj10.out hk.out hrw hv }; replace hn3 := hid hn3; replace hv := hid hv; clear g0 l0; have g0 := (b0.out.ext (E2.trans E3)).cells; have l0 := (b0.out.ext (E2.trans E3)).lt) | (go_at_call 26; refine hc4.out.mono ?_; rintro e w4 ⟨rfl, E4⟩; clear g0 l0) | ((with_reducible refine at_store ?_); refine wpList_newEd rfl (Operand.tmp 8) (Operand.tmp 33) rfl EE _ rfl rfl rfl ?_; intro W5 bE E5; replace bE := hid bE; have rE := hid (range_blk bE.out)) | ((with_reducible refine at_dst 34 ?_); refine wpList_load_mid rfl 39 (Operand.tmp 8) rfl (w4.heap.size) 0 rfl (encEd EE) _ rE.out Tryz.underlying39 rfl (sz_Ed2 _) ?_) | (go_at_call 27; refine (hcI.out _).mono ?_; rintro e w6 ⟨rfl, E6⟩; have EX := hid (E2.trans (E3.trans (E4.trans (E5.trans E6)))); have r1 := hid (there_blk (b1.out.ext EX.out)); have rE6 := hid (range_blk (bE.out.ext E6))) | ((with_reducible refine at_dst 38 ?_); refine wpList_load_mid rfl 39 (Operand.tmp 8) rfl (w4.heap.size) 0 rfl (encEd EE) _ rE6.out Tryz.underlying39 rfl (sz_Ed2 _) ?_) | ((with_reducible refine at_store ?_); refine wpList_store_mid rfl 39 (Operand.tmp 4) _ rfl (w.heap.size + 1) 0 (encEd EE).toArray rfl rfl r1.out (sz_Ed _) (one_Edit _) ?_))
          generalize hV9 : World.setCells _ _ _ _ = W9
          have kB : Blk W9 (w.heap.size + 1) (encEd EE) 39 := by rw [← hV9]; exact (b1.out.ext EX.out).setAll (vs := encEd EE) rfl
          have hE2 : Ext w W9 := by rw [← hV9]; exact ext_setCells (by omega) _ _ _ (E0.trans EX.out)
          clear hV9
          exact bodyPost_ret (v := .tuple #[.agg (encEd EE).toArray, .int .i64 0]) (results_cell_tmp Tryz.results13 _ _ (w.heap.size + 1) 39 (encEd EE).toArray (0, 0) _ rfl kB Tryz.underlying39 rfl (sz_Ed _)) rfl ⟨by rw [hr.out], hE2⟩
        | false =>
          have hr := hid (edV_inv (l := l) hk.out hrw (by rw [← hEE.out]; exact hP))
          rw [hP] at hcI
          clear hP
          go_wp2_with (first | (go_at_call 24; refine (hc1.out _).mono ?_; rintro e w2 ⟨rfl, E2⟩; clear g0 l0; have g0 := (b0.out.ext E2).cells; have l0 := (b0.out.ext E2).lt) | (go_at_call 25; refine (hc3.out _ E2).mono ?_; rintro e w3 ⟨q3, n3, d3, rfl, ⟨hn3, hv⟩, E3⟩; have hc4 : Hid (Calls Tryz.prog 26 #[.agg #[.slice p n c], .slice (some ⟨b, off, none⟩) (m + 1) d, .slice q3 n3 d3] w3 fun e w' => e = .returned (.agg (encEd EE).toArray) ∧ Ext w3 w') := by { rw [hn3, hEE.out]; exact rEditG s ws l p _ q3 n c m d d3 base base2 _ w3 (h.ext CeR.ok (E0.trans (E2.trans E3))) hn (hS.ext okStr (E0.trans (E2.trans E3))) j hj10.out hk.out hrw hv }; replace hn3 := hid hn3; replace hv := hid hv; clear g0 l0; have g0 := (b0.out.ext (E2.trans E3)).cells; have l0 := (b0.out.ext (E2.trans E3)).lt) | (go_at_call 26; refine hc4.out.mono ?_; rintro e w4 ⟨rfl, E4⟩; clear g0 l0) | ((with_reducible refine at_store ?_); refine wpList_newEd rfl (Operand.tmp 8) (Operand.tmp 33) rfl EE _ rfl rfl rfl ?_; intro W5 bE E5; replace bE := hid bE; have rE := hid (range_blk bE.out)) | ((with_reducible refine at_dst 34 ?_); refine wpList_load_mid rfl 39 (Operand.tmp 8) rfl (w4.heap.size) 0 rfl (encEd EE) _ rE.out Tryz.underlying39 rfl (sz_Ed2 _) ?_) | (go_at_call 27; refine (hcI.out _).mono ?_; rintro e w6 ⟨rfl, E6⟩; have EX := hid (E2.trans (E3.trans (E4.trans (E5.trans E6)))); have r1 := hid (there_blk (b1.out.ext EX.out)); have rE6 := hid (range_blk (bE.out.ext E6))) | (refine wpList_build rfl 39 #[] rfl [] rfl (encEd zE).toArray built_zE ?_) | ((with_reducible refine at_store ?_); refine wpList_store_mid rfl 39 (Operand.tmp 4) _ rfl (w.heap.size + 1) 0 (encEd zE).toArray rfl rfl r1.out (sz_Ed _) (one_Edit _) ?_))
          generalize hV9 : World.setCells _ _ _ _ = W9
          have kB : Blk W9 (w.heap.size + 1) (encEd zE) 39 := by rw [← hV9]; exact (b1.out.ext EX.out).setAll (vs := encEd zE) rfl
          have hE2 : Ext w W9 := by rw [← hV9]; exact ext_setCells (by omega) _ _ _ (E0.trans EX.out)
          clear hV9
          exact bodyPost_ret (v := .tuple #[.agg (encEd zE).toArray, .int .i64 1]) (results_cell_tmp Tryz.results13 _ _ (w.heap.size + 1) 39 (encEd zE).toArray (0, 0) _ rfl kB Tryz.underlying39 rfl (sz_Ed _)) rfl ⟨by rw [hr.out], hE2⟩
      · have hr0 := edV_bad hk.out hrw
        obtain ⟨C, hC9⟩ : ∃ C, Hid (C = rwV l (kdJ j) ws) := ⟨_, hid rfl⟩
        rw [← hC9.out] at hr0 hrw
        have hr := hid hr0
        clear hr0
        have hCB : (C != 0) = true := by simpa using hrw
        go_wp2_with (first | (go_at_call 24; refine (hc1.out _).mono ?_; rintro e w2 ⟨rfl, E2⟩; clear g0 l0; have g0 := (b0.out.ext E2).cells; have l0 := (b0.out.ext E2).lt) | (go_at_call 25; refine (hc2.out _ E2).mono ?_; rw [← hC9.out]; rintro e w3 ⟨q3, n3, d3, rfl, hv, E3⟩; replace hv := hid hv; have r1 := hid (there_blk (b1.out.ext (E2.trans E3)))) | (refine wpList_build rfl 39 #[] rfl [] rfl (encEd zE).toArray built_zE ?_) | ((with_reducible refine at_store ?_); refine wpList_store_mid rfl 39 (Operand.tmp 4) _ rfl (w.heap.size + 1) 0 (encEd zE).toArray rfl rfl r1.out (sz_Ed _) (one_Edit _) ?_))
        generalize hV9 : World.setCells _ _ _ _ = W9
        have kB : Blk W9 (w.heap.size + 1) (encEd zE) 39 := by rw [← hV9]; exact (b1.out.ext (E2.trans E3)).setAll (vs := encEd zE) rfl
        have hE2 : Ext w W9 := by rw [← hV9]; exact ext_setCells (by omega) _ _ _ (E0.trans (E2.trans E3))
        clear hV9
        exact bodyPost_ret (v := .tuple #[.agg (encEd zE).toArray, .int .i64 C]) (results_cell_tmp Tryz.results13 _ _ (w.heap.size + 1) 39 (encEd zE).toArray (0, 0) _ rfl kB Tryz.underlying39 rfl (sz_Ed _)) rfl ⟨by rw [hr.out], hE2⟩

/-- What EditOf returns. -/
def eoV (l : List CeD) (s : ByteArray) : EdD × Int := if libB l then edV l (wordsL s) else (zE, 1)
theorem words_sz {s : ByteArray} (hs : s.size ≤ 1048576) : ∀ y ∈ wordsL s, y.size ≤ 1048576 := fun y hy => by
  unfold wordsL at hy
  rw [List.mem_map] at hy
  obtain ⟨p, _, rfl⟩ := hy
  unfold cutW
  rw [ByteArray.size_extract]
  omega

set_option maxRecDepth 100000 in
set_option maxHeartbeats 4000000 in
theorem pEO_any (s : ByteArray) (l : List CeD) (p : Option Addr) (n c base : Nat) (w : World) (hV : Vrs w) (h : SlD CeR 4 base w p n l) (hn : n ≤ 1048576) (hf : ∀ x ∈ l, FitCe x) (hs : s.size ≤ 1048576) :
    Calls Tryz.prog 7 #[.agg #[.slice p n c], .string s] w fun e w' => e = .returned (.tuple #[.agg (encEd (eoV l s).1).toArray, .int .i64 (eoV l s).2]) ∧ Ext w w' := by
  have hws := hid (words_sz hs)
  have hwl := hid (wordsL_len s)
  cases hB : libB l with
  | false =>
    have hr : Hid (eoV l s = (zE, 1)) := by show _ = _; unfold eoV; rw [hB]; rfl
    have hcl : Hid (∀ V, Ext w V → Calls Tryz.prog 15 #[.agg #[.slice p n c]] V fun e w' => e = .returned (.bool false) ∧ Ext V w') := fun V hE => by
      have := pLib_any p n c base l V (h.ext CeR.ok hE) (by omega) hf
      rwa [hB] at this
    clear hB
    go_enter Tryz.func7, Tryz.ntmps7
    go_upto_region 1 with (fail)
    generalize hW : World.alloc (World.alloc _ _) _ = W0
    obtain ⟨E0, z0, b0, b1⟩ := boxes2 hW
    clear hW z0
    replace b0 := hid (show Blk W0 (w.heap.size) [_] _ from b0)
    replace b1 := hid (show Blk W0 (w.heap.size + 1) (encEd zE) _ from b1)
    have g0 := b0.out.cells
    have l0 := b0.out.lt
    go_wp2_with (first | (go_at_call 15; refine (hcl.out _ E0).mono ?_; rintro e w2 ⟨rfl, E2⟩; have r1 := hid (there_blk (b1.out.ext E2))) | (refine wpList_build rfl 39 #[] rfl [] rfl (encEd zE).toArray built_zE ?_) | ((with_reducible refine at_store ?_); refine wpList_store_mid rfl 39 (Operand.tmp 4) _ rfl (w.heap.size + 1) 0 (encEd zE).toArray rfl rfl r1.out (sz_Ed _) (one_Edit _) ?_))
    generalize hV9 : World.setCells _ _ _ _ = W9
    have kB : Blk W9 (w.heap.size + 1) (encEd zE) 39 := by rw [← hV9]; exact (b1.out.ext E2).setAll (vs := encEd zE) rfl
    have hE2 : Ext w W9 := by rw [← hV9]; exact ext_setCells (by omega) _ _ _ (E0.trans E2)
    clear hV9
    exact bodyPost_ret (v := .tuple #[.agg (encEd zE).toArray, .int .i64 1]) (results_cell_tmp Tryz.results7 _ _ (w.heap.size + 1) 39 (encEd zE).toArray (0, 0) _ rfl kB Tryz.underlying39 rfl (sz_Ed _)) rfl ⟨by rw [hr.out], hE2⟩
  | true =>
    have hr0 : eoV l s = edV l (wordsL s) := by unfold eoV; rw [hB]; rfl
    obtain ⟨EE, hEE⟩ : ∃ EE, EE = (edV l (wordsL s)).1 := ⟨_, rfl⟩
    obtain ⟨C, hC⟩ : ∃ C, C = (edV l (wordsL s)).2 := ⟨_, rfl⟩
    have hr : Hid (eoV l s = (EE, C)) := by show _ = _; rw [hr0, hEE, hC]
    have hcl : Hid (∀ V, Ext w V → Calls Tryz.prog 15 #[.agg #[.slice p n c]] V fun e w' => e = .returned (.bool true) ∧ Ext V w') := fun V hE => by
      have := pLib_any p n c base l V (h.ext CeR.ok hE) (by omega) hf
      rwa [hB] at this
    have hce : Hid (∀ (V : World) (q : Option Addr) (d base2 : Nat), Ext w V → SlD (Fl encW) 1 base2 V q (wordsL s).length (wordsL s) → (wordsL s).length ≤ d → Calls Tryz.prog 17 #[.agg #[.slice p n c], .slice q (wordsL s).length d] V fun e w' => e = .returned (.tuple #[.agg (encEd EE).toArray, .int .i64 C]) ∧ Ext V w') := fun V q d base2 hE hS hd => by
      rw [hEE, hC]
      exact pEditOf_any (wordsL s) l p q n c _ d base base2 V (hV.ext hE) (h.ext CeR.ok hE) hn hS (by have := hwl.out; omega) hd hws.out
    clear hB hr0 hEE hC
    go_enter Tryz.func7, Tryz.ntmps7
    go_upto_region 1 with (fail)
    generalize hW : World.alloc (World.alloc _ _) _ = W0
    obtain ⟨E0, z0, b0, b1⟩ := boxes2 hW
    clear hW z0
    replace b0 := hid (show Blk W0 (w.heap.size) [_] _ from b0)
    replace b1 := hid (show Blk W0 (w.heap.size + 1) (encEd zE) _ from b1)
    have g0 := b0.out.cells
    have l0 := b0.out.lt
    go_wp2_with (first | (go_at_call 15; refine (hcl.out _ E0).mono ?_; rintro e w2 ⟨rfl, E2⟩; clear g0 l0; have g0 := (b0.out.ext E2).cells; have l0 := (b0.out.ext E2).lt) | (go_at_call 16; refine (pSplit_any s _ hs).mono ?_; rintro e w3 ⟨q, c3, v2, rfl, S3, E3, hcap⟩; replace S3 := hid S3; replace hcap := hid hcap; clear g0 l0; have g0 := (b0.out.ext (E2.trans E3)).cells; have l0 := (b0.out.ext (E2.trans E3)).lt) | (go_at_call 17; refine (hce.out _ _ _ _ (E0.trans (E2.trans E3)) S3.out hcap.out).mono ?_; rintro e w4 ⟨rfl, E4⟩; have EX := hid (E2.trans (E3.trans E4)); have r1 := hid (there_blk (b1.out.ext EX.out))) | ((with_reducible refine at_store ?_); refine wpList_store_mid rfl 39 (Operand.tmp 4) _ rfl (w.heap.size + 1) 0 (encEd EE).toArray rfl rfl r1.out (sz_Ed _) (one_Edit _) ?_))
    generalize hV9 : World.setCells _ _ _ _ = W9
    have kB : Blk W9 (w.heap.size + 1) (encEd EE) 39 := by rw [← hV9]; exact (b1.out.ext EX.out).setAll (vs := encEd EE) rfl
    have hE2 : Ext w W9 := by rw [← hV9]; exact ext_setCells (by omega) _ _ _ (E0.trans EX.out)
    clear hV9
    exact bodyPost_ret (v := .tuple #[.agg (encEd EE).toArray, .int .i64 C]) (results_cell_tmp Tryz.results7 _ _ (w.heap.size + 1) 39 (encEd EE).toArray (0, 0) _ rfl kB Tryz.underlying39 rfl (sz_Ed _)) rfl ⟨by rw [hr.out], hE2⟩

set_option maxRecDepth 100000 in
set_option maxHeartbeats 4000000 in
theorem rEO_any (s : ByteArray) (l : List CeD) (p : Option Addr) (n c base : Nat) (w : World) (h : SlD CeR 4 base w p n l) (hn : n ≤ 1048576) (hf : ∀ x ∈ l, FitCe x) (hs : s.size ≤ 1048576) :
    Calls Tryz.prog 5 #[.agg #[.slice p n c], .string s] w fun e w' => e = .returned (.tuple #[.agg (encEd (eoV l s).1).toArray, .int .i64 (eoV l s).2]) ∧ Ext w w' := by
  have hws := hid (words_sz hs)
  have hwl := hid (wordsL_len s)
  cases hB : libB l with
  | false =>
    have hr : Hid (eoV l s = (zE, 1)) := by show _ = _; unfold eoV; rw [hB]; rfl
    have hcl : Hid (∀ V, Ext w V → Calls Tryz.prog 11 #[.agg #[.slice p n c]] V fun e w' => e = .returned (.bool false) ∧ Ext V w') := fun V hE => by
      have := rLib_any p n c base l V (h.ext CeR.ok hE) (by omega) hf
      rwa [hB] at this
    clear hB
    go_enter Tryz.func5, Tryz.ntmps5
    go_upto_region 1 with (fail)
    generalize hW : World.alloc (World.alloc _ _) _ = W0
    obtain ⟨E0, z0, b0, b1⟩ := boxes2 hW
    clear hW z0
    replace b0 := hid (show Blk W0 (w.heap.size) [_] _ from b0)
    replace b1 := hid (show Blk W0 (w.heap.size + 1) (encEd zE) _ from b1)
    have g0 := b0.out.cells
    have l0 := b0.out.lt
    go_wp2_with (first | (go_at_call 11; refine (hcl.out _ E0).mono ?_; rintro e w2 ⟨rfl, E2⟩; have r1 := hid (there_blk (b1.out.ext E2))) | (refine wpList_build rfl 39 #[] rfl [] rfl (encEd zE).toArray built_zE ?_) | ((with_reducible refine at_store ?_); refine wpList_store_mid rfl 39 (Operand.tmp 4) _ rfl (w.heap.size + 1) 0 (encEd zE).toArray rfl rfl r1.out (sz_Ed _) (one_Edit _) ?_))
    generalize hV9 : World.setCells _ _ _ _ = W9
    have kB : Blk W9 (w.heap.size + 1) (encEd zE) 39 := by rw [← hV9]; exact (b1.out.ext E2).setAll (vs := encEd zE) rfl
    have hE2 : Ext w W9 := by rw [← hV9]; exact ext_setCells (by omega) _ _ _ (E0.trans E2)
    clear hV9
    exact bodyPost_ret (v := .tuple #[.agg (encEd zE).toArray, .int .i64 1]) (results_cell_tmp Tryz.results5 _ _ (w.heap.size + 1) 39 (encEd zE).toArray (0, 0) _ rfl kB Tryz.underlying39 rfl (sz_Ed _)) rfl ⟨by rw [hr.out], hE2⟩
  | true =>
    have hr0 : eoV l s = edV l (wordsL s) := by unfold eoV; rw [hB]; rfl
    obtain ⟨EE, hEE⟩ : ∃ EE, EE = (edV l (wordsL s)).1 := ⟨_, rfl⟩
    obtain ⟨C, hC⟩ : ∃ C, C = (edV l (wordsL s)).2 := ⟨_, rfl⟩
    have hr : Hid (eoV l s = (EE, C)) := by show _ = _; rw [hr0, hEE, hC]
    have hcl : Hid (∀ V, Ext w V → Calls Tryz.prog 11 #[.agg #[.slice p n c]] V fun e w' => e = .returned (.bool true) ∧ Ext V w') := fun V hE => by
      have := rLib_any p n c base l V (h.ext CeR.ok hE) (by omega) hf
      rwa [hB] at this
    have hce : Hid (∀ (V : World) (q : Option Addr) (d base2 : Nat), Ext w V → SlD (Fl encW) 1 base2 V q (wordsL s).length (wordsL s) → (wordsL s).length ≤ d → Calls Tryz.prog 13 #[.agg #[.slice p n c], .slice q (wordsL s).length d] V fun e w' => e = .returned (.tuple #[.agg (encEd EE).toArray, .int .i64 C]) ∧ Ext V w') := fun V q d base2 hE hS hd => by
      rw [hEE, hC]
      exact rEditOf_any (wordsL s) l p q n c _ d base base2 V (h.ext CeR.ok hE) hn hf hB hS (by have := hwl.out; omega) hws.out
    clear hB hr0 hEE hC
    go_enter Tryz.func5, Tryz.ntmps5
    go_upto_region 1 with (fail)
    generalize hW : World.alloc (World.alloc _ _) _ = W0
    obtain ⟨E0, z0, b0, b1⟩ := boxes2 hW
    clear hW z0
    replace b0 := hid (show Blk W0 (w.heap.size) [_] _ from b0)
    replace b1 := hid (show Blk W0 (w.heap.size + 1) (encEd zE) _ from b1)
    have g0 := b0.out.cells
    have l0 := b0.out.lt
    go_wp2_with (first | (go_at_call 11; refine (hcl.out _ E0).mono ?_; rintro e w2 ⟨rfl, E2⟩; clear g0 l0; have g0 := (b0.out.ext E2).cells; have l0 := (b0.out.ext E2).lt) | (go_at_call 12; refine (rSplit_any s _ hs).mono ?_; rintro e w3 ⟨q, c3, v2, rfl, S3, E3, hcap⟩; replace S3 := hid S3; replace hcap := hid hcap; clear g0 l0; have g0 := (b0.out.ext (E2.trans E3)).cells; have l0 := (b0.out.ext (E2.trans E3)).lt) | (go_at_call 13; refine (hce.out _ _ _ _ (E0.trans (E2.trans E3)) S3.out hcap.out).mono ?_; rintro e w4 ⟨rfl, E4⟩; have EX := hid (E2.trans (E3.trans E4)); have r1 := hid (there_blk (b1.out.ext EX.out))) | ((with_reducible refine at_store ?_); refine wpList_store_mid rfl 39 (Operand.tmp 4) _ rfl (w.heap.size + 1) 0 (encEd EE).toArray rfl rfl r1.out (sz_Ed _) (one_Edit _) ?_))
    generalize hV9 : World.setCells _ _ _ _ = W9
    have kB : Blk W9 (w.heap.size + 1) (encEd EE) 39 := by rw [← hV9]; exact (b1.out.ext EX.out).setAll (vs := encEd EE) rfl
    have hE2 : Ext w W9 := by rw [← hV9]; exact ext_setCells (by omega) _ _ _ (E0.trans EX.out)
    clear hV9
    exact bodyPost_ret (v := .tuple #[.agg (encEd EE).toArray, .int .i64 C]) (results_cell_tmp Tryz.results5 _ _ (w.heap.size + 1) 39 (encEd EE).toArray (0, 0) _ rfl kB Tryz.underlying39 rfl (sz_Ed _)) rfl ⟨by rw [hr.out], hE2⟩

end Go.Proofs.YtncmhefendhinaaGreatDoor
