/- Contracts of components and of PatternParts, of the program and of the reference. Condition: at most 2^20 rectangles. -/
import Derived.Test.YtaigndaabmelhaaLpt
import Derived.Test.YtaigndaabmelhaaReg
namespace Go.Proofs.Ytaigndaabmelhaa
open Go.RowKit

/-- The code of PatternParts, and its parts. -/
def ppC (l : List Q4) : Int := if isReg l = true then (if 12 < (partsG (gL l)).length then 3 else 0) else 1
def ppG (l : List Q4) : List Grid := if isReg l = true then (if 12 < (partsG (gL l)).length then [] else partsG (gL l)) else []
theorem ppC_no {l : List Q4} (h : isReg l = false) : ppC l = 1 ∧ ppG l = [] := by rw [ppC, ppG, h]; exact ⟨rfl, rfl⟩
theorem ppC_many {l : List Q4} (h : isReg l = true) (h2 : 12 < (partsG (gL l)).length) : ppC l = 3 ∧ ppG l = [] := by rw [ppC, ppG, if_pos h, if_pos h, if_pos h2, if_pos h2]; exact ⟨rfl, rfl⟩
theorem ppC_ok {l : List Q4} (h : isReg l = true) (h2 : ¬ 12 < (partsG (gL l)).length) : ppC l = 0 ∧ ppG l = partsG (gL l) := by rw [ppC, ppG, if_pos h, if_pos h, if_neg h2, if_neg h2]; exact ⟨rfl, rfl⟩
theorem ppG_len (l : List Q4) : (ppG l).length ≤ 12 := by
  rw [ppG]
  split
  · split
    · simp
    · omega
  · simp
def PartsC (l : List Q4) (w : World) (e : Ending) (w' : World) : Prop := ∃ (q : Option Addr) (c : Nat) (H : List Hd), e = .returned (.tuple #[.slice q (ppG l).length c, .int .i64 (ppC l)]) ∧ OwnS w.heap.size w' q (ppG l).length c H (flV ((ppG l).map canon)) ∧ Ext w w'
set_option maxHeartbeats 4000000 in
theorem components_any (q : Option Addr) (n c : Nat) (l : List Q4) (w : World) (h : SlT enc4 4 w q n l) (hn : n ≤ 1048576) (hv : ∀ r ∈ l, vR r = true) :
    Calls Try.prog 61 #[.slice q n c] w (PartsS (partsG (gL l)) w) := by
  have hv := hid (fun r hr => vR_near (hv r hr))
  go_enter Try.func61, Try.ntmps61
  go_wp2_with fail
  refine (cellsOf_any q n c l _ h hn hv.out).mono ?_
  rintro e w1 ⟨B, rfl, lo, b, E1⟩
  replace b := hid b
  go_wp2_with fail
  refine (parts_any B (gL l) _ b.out).mono ?_
  rintro e w2 ⟨q2, c2, H, rfl, o2, E2⟩
  replace o2 := hid o2
  go_wp2_with fail
  go_ret
  exact ⟨q2, c2, H, rfl, o2.out.low E1.le, E1.trans E2⟩
set_option maxHeartbeats 4000000 in
theorem PatternParts_any (q : Option Addr) (n c : Nat) (l : List Q4) (w : World) (h : SlT enc4 4 w q n l) (hn : n ≤ 1048576) :
    Calls Try.prog 18 #[.slice q n c] w (PartsC l w) := by
  have k1 := fun V (hV : Ext w V) => IsRegion_any q n c l V (h.ext hV) hn
  cases r1 : isReg l with
  | false =>
    rw [r1] at k1
    replace k1 := hid k1
    have hc : Hid (ppC l = 1 ∧ ppG l = []) := ppC_no r1
    go_enter Try.func18, Try.ntmps18
    go_wp2_with fail
    refine (k1.out _ (Ext.refl _)).mono ?_
    rintro e w1 ⟨rfl, E1⟩
    go_wp2_with fail
    refine bodyPost_ret (results_tmp2 rfl _ _ _) rfl ?_
    rw [PartsC, hc.out.1, hc.out.2]
    exact ⟨none, 0, [], rfl, OwnS.nil _ _, E1⟩
  | true =>
    rw [r1] at k1
    replace k1 := hid k1
    have v0 := (vRs_parts (isReg_iff.1 r1).1).2
    have k2 := hid (fun V (hV : Ext w V) => components_any q n c l V (h.ext hV) hn v0)
    obtain ⟨G, hG⟩ : ∃ G, G = partsG (gL l) := ⟨_, rfl⟩
    have h64 := (partsG_ok (gL l)).2.2.2
    have hc1 := hid (fun h12 : 12 < (partsG (gL l)).length => ppC_many r1 h12)
    have hc2 := hid (fun h12 : ¬ 12 < (partsG (gL l)).length => ppC_ok r1 h12)
    rw [← hG] at h64 hc1 hc2 k2
    clear v0
    replace hG := hid hG
    by_cases h12 : 12 < G.length
    · have hI : (12 : Int) < (G.length : Int) := by omega
      have hc := hid (hc1.out h12)
      go_enter Try.func18, Try.ntmps18
      go_wp2_with fail
      refine (k1.out _ (Ext.refl _)).mono ?_
      rintro e w1 ⟨rfl, E1⟩
      go_wp2_with fail
      refine (k2.out _ E1).mono ?_
      rintro e w2 ⟨q2, c2, H, rfl, o2, E2⟩
      replace o2 := hid o2
      go_wp2_with fail
      refine bodyPost_ret (results_tmp2 rfl _ _ _) rfl ?_
      rw [PartsC, hc.out.1, hc.out.2]
      exact ⟨none, 0, [], rfl, OwnS.nil _ _, E1.trans E2⟩
    · have hI : ¬ (12 : Int) < (G.length : Int) := by omega
      have hc := hid (hc2.out h12)
      go_enter Try.func18, Try.ntmps18
      go_wp2_with fail
      refine (k1.out _ (Ext.refl _)).mono ?_
      rintro e w1 ⟨rfl, E1⟩
      go_wp2_with fail
      refine (k2.out _ E1).mono ?_
      rintro e w2 ⟨q2, c2, H, rfl, o2, E2⟩
      replace o2 := hid o2
      go_wp2_with fail
      refine bodyPost_ret (results_tmp2 rfl _ _ _) rfl ?_
      rw [PartsC, hc.out.1, hc.out.2]
      exact ⟨q2, c2, H, rfl, o2.out.low E1.le, E1.trans E2⟩
set_option maxHeartbeats 4000000 in
theorem specPatternParts_any (q : Option Addr) (n c : Nat) (l : List Q4) (w : World) (h : SlT enc4 4 w q n l) (hn : n ≤ 1048576) :
    Calls Try.prog 16 #[.slice q n c] w (PartsC l w) := by
  have k1 := fun V (hV : Ext w V) => l03Ok_any q n c l V (h.ext hV) hn
  cases r1 : isReg l with
  | false =>
    rw [r1] at k1
    replace k1 := hid k1
    have hc : Hid (ppC l = 1 ∧ ppG l = []) := ppC_no r1
    go_enter Try.func16, Try.ntmps16
    go_wp2_with fail
    refine (k1.out _ (Ext.refl _)).mono ?_
    rintro e w1 ⟨rfl, E1⟩
    go_wp2_with fail
    refine bodyPost_ret (results_tmp2 rfl _ _ _) rfl ?_
    rw [PartsC, hc.out.1, hc.out.2]
    exact ⟨none, 0, [], rfl, OwnS.nil _ _, E1⟩
  | true =>
    rw [r1] at k1
    replace k1 := hid k1
    have v0 := (vRs_parts (isReg_iff.1 r1).1).2
    have k2 := hid (fun V (hV : Ext w V) => l07Components_any q n c l V (h.ext hV) hn v0)
    obtain ⟨G, hG⟩ : ∃ G, G = partsG (gL l) := ⟨_, rfl⟩
    have h64 := (partsG_ok (gL l)).2.2.2
    have hc1 := hid (fun h12 : 12 < (partsG (gL l)).length => ppC_many r1 h12)
    have hc2 := hid (fun h12 : ¬ 12 < (partsG (gL l)).length => ppC_ok r1 h12)
    rw [← hG] at h64 hc1 hc2 k2
    clear v0
    replace hG := hid hG
    by_cases h12 : 12 < G.length
    · have hI : (12 : Int) < (G.length : Int) := by omega
      have hc := hid (hc1.out h12)
      go_enter Try.func16, Try.ntmps16
      go_wp2_with fail
      refine (k1.out _ (Ext.refl _)).mono ?_
      rintro e w1 ⟨rfl, E1⟩
      go_wp2_with fail
      refine (k2.out _ E1).mono ?_
      rintro e w2 ⟨q2, c2, H, rfl, o2, E2⟩
      replace o2 := hid o2
      go_wp2_with fail
      refine bodyPost_ret (results_tmp2 rfl _ _ _) rfl ?_
      rw [PartsC, hc.out.1, hc.out.2]
      exact ⟨none, 0, [], rfl, OwnS.nil _ _, E1.trans E2⟩
    · have hI : ¬ (12 : Int) < (G.length : Int) := by omega
      have hc := hid (hc2.out h12)
      go_enter Try.func16, Try.ntmps16
      go_wp2_with fail
      refine (k1.out _ (Ext.refl _)).mono ?_
      rintro e w1 ⟨rfl, E1⟩
      go_wp2_with fail
      refine (k2.out _ E1).mono ?_
      rintro e w2 ⟨q2, c2, H, rfl, o2, E2⟩
      replace o2 := hid o2
      go_wp2_with fail
      refine bodyPost_ret (results_tmp2 rfl _ _ _) rfl ?_
      rw [PartsC, hc.out.1, hc.out.2]
      exact ⟨q2, c2, H, rfl, o2.out.low E1.le, E1.trans E2⟩
end Go.Proofs.Ytaigndaabmelhaa
