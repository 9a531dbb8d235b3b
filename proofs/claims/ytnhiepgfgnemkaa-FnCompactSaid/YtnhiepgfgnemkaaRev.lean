/- Contract of slices.Reverse at []int64 on a row of the call's own. Condition: at most 2^20 elements. And the closure of CriticalPath. -/
import Derived.Test.YtnhiepgfgnemkaaMis
import Derived.RegionTactic
namespace Go.Proofs.Ytnhiepgfgnemkaa
open Go.RowKit

/-- After j exchanges. -/
def revJ (n : Nat) (f : Int → Int) (j : Nat) (i : Int) : Int := if i < j ∨ (n : Int) - j ≤ i then f (n - 1 - i) else f i
theorem revJ_zero {n : Nat} {f : Int → Int} : tab n (revJ n f 0) = tab n f := tab_congr fun i hi => by
  obtain ⟨k, rfl, hk⟩ := upto_mem hi
  rw [revJ, if_neg (by omega)]
theorem revJ_end {n j : Nat} {f : Int → Int} (h : (n : Int) - 1 - j ≤ j) : tab n (revJ n f j) = tab n (fun i => f (n - 1 - i)) := tab_congr fun i hi => by
  obtain ⟨k, rfl, hk⟩ := upto_mem hi
  rw [revJ]; split
  · rfl
  · rename_i hh; rw [show (n : Int) - 1 - k = k by omega]
theorem revJ_step {n j : Nat} {f : Int → Int} {a b : Int} (h : (j : Int) < n - 1 - j) (ha : a = f (n - 1 - j)) (hb : b = f j) : updI (updI (revJ n f j) j a) (n - 1 - j) b = revJ n f (j + 1) := by
  funext i
  rw [updI, updI, revJ, revJ]
  by_cases h1 : i = n - 1 - j
  · rw [if_pos h1, if_pos (by omega), hb]; congr 1; omega
  · rw [if_neg h1]
    by_cases h2 : i = j
    · rw [if_pos h2, if_pos (by omega), ha, h2]
    · rw [if_neg h2]
      by_cases h3 : i < j ∨ (n : Int) - j ≤ i
      · rw [if_pos h3, if_pos (by omega)]
      · rw [if_neg h3, if_neg (by omega)]
theorem list_tab (xs : List Int) : xs = tab xs.length (fun i => xs.getD i.toNat 0) := by
  apply List.ext_getElem?
  intro i
  by_cases hi : i < xs.length
  · rw [tab_get _ hi, Int.toNat_natCast, List.getD_eq_getElem?_getD, List.getElem?_eq_getElem hi]; rfl
  · rw [List.getElem?_eq_none (by omega), List.getElem?_eq_none (by rw [tab_len]; omega)]
theorem rev_tab (xs : List Int) : tab xs.length (fun i => xs.getD (((xs.length : Int) - 1 - i).toNat) 0) = xs.reverse := by
  apply List.ext_getElem?
  intro i
  by_cases hi : i < xs.length
  · rw [tab_get _ hi, List.getElem?_reverse hi, List.getD_eq_getElem?_getD, show ((xs.length : Int) - 1 - (i : Int)).toNat = xs.length - 1 - i by omega, List.getElem?_eq_getElem (by omega)]; rfl
  · rw [List.getElem?_eq_none (by rw [tab_len]; omega), List.getElem?_eq_none (by rw [List.length_reverse]; omega)]
set_option maxRecDepth 100000 in
set_option maxHeartbeats 2000000 in
theorem reverse_tab (gx n c base : Nat) (f : Int → Int) (w : World) (ho : w.ownsRow base 2 1 (.slice (some ⟨gx, 0, none⟩) n c) n (ints (tab n f))) (hn : n ≤ 1048576) :
    Calls Try.prog 72 #[.slice (some ⟨gx, 0, none⟩) n c] w fun e w' => e = .returned (.tuple #[]) ∧ w'.ownsRow base 2 1 (.slice (some ⟨gx, 0, none⟩) n c) n (ints (tab n (fun i => f (n - 1 - i)))) ∧ Mut w w' [gx] := by
  have hnI : (n : Int) ≤ 1048576 := by omega
  rw [← revJ_zero] at ho
  go_enter Try.func72, Try.ntmps72
  go_wp2_with fail
  go_loopw [2, 3] (fun a b wr => ∃ (j : Nat) (z : Int), a = .int .i64 j ∧ b = .int .i64 z ∧ Hid (z = (n : Int) - 1 - j) ∧ j ≤ n ∧ Mut w wr [gx] ∧ wr.ownsRow base 2 1 (.slice (some ⟨gx, 0, none⟩) n c) n (ints (tab n (revJ n f j)))) (fun a _ _ => n - (intOf a).toNat)
  case atStart => exact ⟨0, _, rfl, rfl, by show _ = _; omega, by omega, Mut.refl _ _, ho⟩
  case round =>
    clear ho
    obtain ⟨j, z, rfl, rfl, hz, hj, hM, ho⟩ := hrel
    by_cases hlt : (j : Int) < z
    · obtain ⟨k, rfl⟩ : ∃ k : Nat, z = (k : Int) := ⟨z.toNat, by omega⟩
      have hkn : k < n := by have := hz.out; omega
      have hjn : j < n := by omega
      have hkI : (k : Int) < n := by omega
      have hjI : (j : Int) < n := by omega
      have hk0 : (0 : Int) ≤ k := by omega
      obtain ⟨a, ha⟩ : ∃ a, a = revJ n f j k := ⟨_, rfl⟩
      obtain ⟨b, hb⟩ : ∃ b, b = revJ n f j j := ⟨_, rfl⟩
      have r0 := tab_cell ho hkn
      have r1 := tab_cell ho hjn
      rw [← ha] at r0
      rw [← hb] at r1
      have hstep : Hid (updI (updI (revJ n f j) j a) k b = revJ n f (j + 1)) := by
        have hz' := hz.out
        have h1 : a = f (n - 1 - j) := by rw [ha, revJ, if_neg (by omega), hz']
        have h2 : b = f j := by rw [hb, revJ, if_neg (by omega)]
        have := revJ_step (n := n) (j := j) (f := f) (by omega) h1 h2
        rw [← hz'] at this
        exact this
      replace ha := hid ha
      replace hb := hid hb
      have hz2 : Hid ((k : Int) - 1 = (n : Int) - 1 - ((j : Nat) + 1 : Nat)) := by have := hz.out; show _ = _; omega
      clear hz
      have fz := owns_free ho
      go_wp2_with fail
      go_region
      go_wp2_with fail
      go_roundw
      case rel =>
        refine ⟨j + 1, _, by go_num, rfl, hz2, by omega, ?_, ?_⟩
        · exact Mut.drew ((hM.setCell (p := ⟨gx, j, none⟩) (by simp) _).setCell (p := ⟨gx, k, none⟩) (by simp) _)
        · exact (tab_put (tab_put ho j a rfl) k b hstep.out).drew
      case measure => simp [intOf]; omega
    · have he : Hid (tab n (revJ n f j) = tab n (fun i => f (n - 1 - i))) := revJ_end (by have := hz.out; omega)
      rw [he.out] at ho
      clear hz
      go_wp2_with fail
      go_end0
      exact ⟨rfl, ho, hM⟩
theorem reverse_any (gx c base : Nat) (xs : List Int) (w : World) (ho : w.ownsRow base 2 1 (.slice (some ⟨gx, 0, none⟩) xs.length c) xs.length (ints xs)) (hn : xs.length ≤ 1048576) :
    Calls Try.prog 72 #[.slice (some ⟨gx, 0, none⟩) xs.length c] w fun e w' => e = .returned (.tuple #[]) ∧ w'.ownsRow base 2 1 (.slice (some ⟨gx, 0, none⟩) xs.length c) xs.length (ints xs.reverse) ∧ Mut w w' [gx] := by
  have h := reverse_tab gx xs.length c base (fun i => xs.getD i.toNat 0) w (by rw [← list_tab]; exact ho) hn
  rw [rev_tab] at h
  exact h
/-- The constraint that holds a block where it is. -/
def tightC (x : Int → Int) (a : Int) (c : Q3) : Bool := decide (c.b = a) && decide (x c.a + c.c = x a)
set_option maxRecDepth 100000 in
set_option maxHeartbeats 2000000 in
theorem crit1_any (ba bx n c : Nat) (q : Option Addr) (f : Int → Int) (a : Nat) (x : Q3) (W : World) (h : SlT enc1 1 W q n (tab n f)) (hb : Blk W bx [.slice q n c] 23) (hat : Blk W ba [.int .i64 a] 3) (han : a < n) (hx : EdgeOk x n) (hf : Btw f 0 1000) :
    Calls Try.prog 71 #[.agg #[.int .i64 x.a, .int .i64 x.b, .int .i64 x.c], .pointer (some ⟨ba, 0, none⟩), .pointer (some ⟨bx, 0, none⟩)] W fun e w' => e = .returned (.bool (tightC f a x)) ∧ Ext W w' := by
  obtain ⟨x1, x2, x3⟩ := x
  obtain ⟨⟨A, hA, hAm⟩, ⟨D, hD, hDm⟩, hc0, hc1⟩ := hx
  simp only at hA hD hc0 hc1 ⊢
  subst hA hD
  obtain ⟨b, off, rfl, hbl, u0⟩ := h.tab hAm
  obtain ⟨b', off', e, hbl', v0⟩ := h.tab han
  cases e
  obtain ⟨u, hu⟩ : ∃ u, u = f A := ⟨_, rfl⟩
  obtain ⟨v, hv⟩ : ∃ v, v = f a := ⟨_, rfl⟩
  have bu := hf A
  have bv := hf a
  have hr : Hid (tightC f a ⟨A, D, x3⟩ = (decide ((D : Int) = a) && decide (u + x3 = v))) := by show _ = _; rw [tightC, hu, hv]
  rw [← hu] at u0 bu
  rw [← hv] at v0 bv
  obtain ⟨bu0, bu1⟩ := bu
  obtain ⟨bv0, bv1⟩ := bv
  replace hu := hid hu
  replace hv := hid hv
  have hAI : (A : Int) < n := by omega
  have haI : (a : Int) < n := by omega
  have hbx := hb.lt
  have hba := hat.lt
  go_enter Try.func71, Try.ntmps71
  go_wp2_with fail
  generalize hW : W.alloc _ = W0
  obtain ⟨E0, z0, b0⟩ := boxes1 hW
  clear hW
  have gb := (show Blk W0 _ [_, _, _] _ from b0).cells
  have k0 := gb 0
  have k1 := gb 1
  have k2 := gb 2
  have g0 := (hb.ext E0).cells 0
  have g1 := (hat.ext E0).cells 0
  simp only [List.getElem?_cons_zero, List.getElem?_cons_succ] at k0 k1 k2 g0 g1
  have y0 := (E0.cells b (off + A) hbl).trans u0
  have y1 := (E0.cells b (off + a) hbl).trans v0
  have hbl0 : b < W0.heap.size := by omega
  have hbx0 : bx < W0.heap.size := by omega
  have hba0 : ba < W0.heap.size := by omega
  have hn0 : W.heap.size < W0.heap.size := by omega
  replace z0 := hid z0
  clear gb b0 u0 v0
  have hw1 : IntKind.i64.wrap (u + x3) = u + x3 := IntWalk.i64_in _ (by omega)
  by_cases h1 : (D : Int) = a
  · have hd1 : ((D : Int) == a) = true := by simpa using h1
    have hr2 : Hid (decide (u + x3 = v) = tightC f a ⟨A, D, x3⟩) := by show _ = _; rw [hr.out, decide_eq_true h1]; rfl
    replace h1 := hid h1
    refine wp_region_later (by kernel_rfl) (by kernel_rfl) ?_
    repeat (go_big_quiet_step (fail))
    refine wpQuiet_nil ?_
    rintro w7 ⟨⟨_, h7⟩, rfl⟩
    go_wp2_with fail
    go_ret
    exact ⟨ret_bool (by rw [← hr2.out]; rfl), E0.trans h7⟩
  · have hd1 : ((D : Int) == a) = false := by simpa using h1
    have hr2 : Hid (false = tightC f a ⟨A, D, x3⟩) := by show _ = _; rw [hr.out, decide_eq_false h1]; rfl
    refine wp_region_later (by kernel_rfl) (by kernel_rfl) ?_
    repeat (go_big_quiet_step (fail))
    refine wpQuiet_nil ?_
    rintro w7 ⟨⟨_, h7⟩, rfl⟩
    go_wp2_with fail
    go_ret
    exact ⟨ret_bool hr2.out, E0.trans h7⟩
end Go.Proofs.Ytnhiepgfgnemkaa
