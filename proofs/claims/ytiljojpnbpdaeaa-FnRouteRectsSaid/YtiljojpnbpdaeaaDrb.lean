/- Contracts of l32DrawBlocked, l32DrawUnit, DrawRouteDistance. Condition: a source; at most 2^20 bytes of code. -/
import Derived.Test.YtiljojpnbpdaeaaSrc
import Derived.Test.YtiljojpnbpdaeaaSp4
import Derived.Deep.RegionHeld3
namespace Go.Proofs.Ytiljojpnbpdaeaa
open Go.RowKit

theorem Src.young {w : World} {B P : Nat} (h : Src w B) (hP : B < P) (j : Nat) (v : Value) : Src (w.setCell ⟨P, j, none⟩ v) B := h.mut ((Mut.refl _ [P]).setCell (p := ⟨P, j, none⟩) (by simp) v) (by simp; omega)
theorem Src.mutNone {w w' : World} {B : Nat} {row : Option Nat} (h : Src w B) (hg : w.grownBy w' row) (hr : ∀ k, row = some k → B < k) : Src w' B := by
  cases row with
  | none => exact h.mut (S := []) ⟨hg.os, hg.tape, hg.output, hg.size, fun k hk _ => hg.block k hk (by simp)⟩ (by simp)
  | some r => exact h.mut (S := [r]) ⟨hg.os, hg.tape, hg.output, hg.size, fun k hk hn => hg.block k hk (fun e => hn (by cases e; simp))⟩ (fun k hk => by simp at hk; rw [hk]; exact hr r rfl)
theorem owns_lowD {w : World} {b b' size n : Nat} {e : TypeId} {v : Value} {xs : List Value} (h : w.ownsRow b e size v n xs) (hb : b' ≤ b) : w.ownsRow b' e size v n xs :=
  ⟨h.1, h.2.elim Or.inl (fun ⟨g, cap, cur, hv, hg, r⟩ => Or.inr ⟨g, cap, cur, hv, Nat.le_trans hb hg, r⟩)⟩
/-- No cell outside the columns -12 .. 22. -/
def Zn (g : Grid) : Prop := ∀ x y, gh g x y = true → -12 ≤ x ∧ x ≤ 22
theorem Zn.put {g : Grid} {x y : Int} (h : Zn g) (hc : onC x y = true) (h0 : -12 ≤ x) (h1 : x ≤ 22) : Zn (gset g (atG x y) true) := by
  intro u v hu
  rw [gh_gset true hc] at hu
  split at hu
  · rename_i e; omega
  · exact h u v hu
theorem Zn.nil : Zn (gL []) := by
  intro x y h
  by_cases hc : onC x y = true
  · rw [gL, gh_gmk _ hc] at h; cases h
  · rw [gh] at h
    rw [Bool.not_eq_true] at hc
    rw [hc] at h; cases h
theorem Zn.canon {g : Grid} (h : Zn g) : Zn (gL (canon g)) := by
  intro x y hh
  by_cases hc : onC x y = true
  · rw [gL, gh_gmk _ hc, canon_in] at hh; exact h x y hh
  · rw [gh] at hh
    rw [Bool.not_eq_true] at hc
    rw [hc] at hh; cases hh
theorem Zn.more {l : List Q4} (h : Zn (gL l)) : Zn (gL (l ++ [(⟨0, 0, 1, 1⟩ : Q4)])) := by
  intro x y hh
  by_cases hc : onC x y = true
  · have h2 := h x y
    rw [gL, gh_gmk _ hc] at hh h2
    rw [inL, List.any_append, Bool.or_eq_true] at hh
    rcases hh with hh | hh
    · exact h2 hh
    · simp [inR] at hh; omega
  · rw [gh] at hh
    rw [Bool.not_eq_true] at hc
    rw [hc] at hh; cases hh
/-- What a draw of rectangles leaves. -/
def DrwL (B : Nat) (w : World) (e : Ending) (w' : World) : Prop := ∃ (q : Option Addr) (n c : Nat) (l : List Q4), e = .returned (.slice q n c) ∧ SlT enc4 4 w' q n l ∧ n ≤ 3201 ∧ (∀ a, q = some a → w.heap.size ≤ a.block) ∧ Src w' B ∧ Mut w w' [B]
/-- The same, and where the rectangles lie. -/
def DrwZ (B : Nat) (w : World) (e : Ending) (w' : World) : Prop := ∃ (q : Option Addr) (n c : Nat) (l : List Q4), e = .returned (.slice q n c) ∧ SlT enc4 4 w' q n l ∧ n ≤ 3201 ∧ (∀ a, q = some a → w.heap.size ≤ a.block) ∧ Src w' B ∧ Mut w w' [B] ∧ Zn (gL l)
set_option maxRecDepth 100000 in
set_option maxHeartbeats 16000000 in
theorem drawBlockedZ_any (B : Nat) (w : World) (hS : Src w B) :
    Calls Try.prog 79 #[.pointer (some ⟨B, 0, none⟩)] w (DrwZ B w) := by
  obtain ⟨i0, hi, hz0, hz1, hz2⟩ := info_parts info_Rect
  have hBw : B < w.heap.size := hS.lt
  go_enter Try.func79, Try.ntmps79
  go_wp2_with fail
  refine (l03Bits_any none 0 0 [] _ (SlT.zero _ _) (by omega) (by simp)).mono ?_
  rintro e w1 ⟨RB, rfl, ob, E1⟩
  have S := hS.ext E1
  have M := E1.mut [B]
  have hRB := (owns_lt ob).1
  replace ob := hid ob
  have zn := hid Zn.nil
  clear E1 hS
  go_wp2_with fail
  refine (next_any B 6 _ S (by omega) (by omega)).mono ?_
  rintro e w2 ⟨m0, rfl, m00, m01, S2, M2⟩
  have M3 := M.same M2
  replace S := S2
  replace ob := hid (M2.own hBw ob.out)
  clear M M2 S2
  have M := M3
  clear M3
  go_wp2_with fail
  go_loopw [4, 5, 6, 7, 8, 9] (fun v _ _ _ _ _ wr => ∃ (m : Int) (g : Grid), v = .int .i64 m ∧ 0 ≤ m ∧ m ≤ 5 ∧ Src wr B ∧ Mut w wr [B] ∧ Hid (wr.ownsRow w.heap.size 4 1 (.slice (some ⟨RB, 0, none⟩) 6400 6400) 6400 (gcells g)) ∧ Hid (Zn g)) (fun v _ _ _ _ _ _ => (intOf v).toNat)
  case atStart => exact ⟨m0, _, rfl, by omega, by omega, S, M, ob, zn⟩
  case round =>
    clear S M ob zn m00 m01
    obtain ⟨m, g, rfl, hm0, hm1, S, M, ob, zn⟩ := hrel
    by_cases hm : 0 < m
    · skip
      go_wp2_with fail
      refine (next_any B 24 _ S (by omega) (by omega)).mono ?_
      rintro e w3 ⟨x, rfl, x0, x1, S2, M2⟩
      have M3 := M.same M2
      replace S := S2
      replace ob := hid (M2.own hBw ob.out)
      clear M M2 S2
      have M := M3
      clear M3
      go_wp2_with fail
      refine (next_any B 24 _ S (by omega) (by omega)).mono ?_
      rintro e w4 ⟨y, rfl, y0, y1, S2, M2⟩
      have M3 := M.same M2
      replace S := S2
      replace ob := hid (M2.own hBw ob.out)
      clear M M2 S2
      have M := M3
      clear M3
      go_wp2_with fail
      refine (next_any B 12 _ S (by omega) (by omega)).mono ?_
      rintro e w5 ⟨h, rfl, h0, h1, S2, M2⟩
      have M3 := M.same M2
      replace S := S2
      replace ob := hid (M2.own hBw ob.out)
      clear M M2 S2
      have M := M3
      clear M3
      obtain ⟨P, hPe⟩ : ∃ P, P = w5.heap.size := ⟨_, rfl⟩
      have hPB : B < P := by have := M.size; omega
      have hRP : P ≠ RB := by have := (owns_lt ob.out).2; omega
      go_wp2_with fail
      rw [← hPe]
      have hPw : w.heap.size ≤ P := by have := M.size; omega
      have hRPo := hid (show Value.ownBlock (.slice (some ⟨RB, 0, none⟩) 6400 6400) ≠ some P by simp [Value.ownBlock]; omega)
      have hP : Hid (Blk (w5.alloc (.cells #[.int .i64 (x - 12), .int .i64 (y - 12), .int .i64 (x - 12 + 1), .int .i64 (y - 12 + 1 + h)] 49)) P [.int .i64 (x - 12), .int .i64 (y - 12), .int .i64 (x - 12 + 1), .int .i64 (y - 12 + 1 + h)] 49) := by
        rw [hPe]; exact Blk.new _ [_, _, _, _] _
      replace S := S.ext ((Ext.refl _).alloc (.cells #[.int .i64 (x - 12), .int .i64 (y - 12), .int .i64 (x - 12 + 1), .int .i64 (y - 12 + 1 + h)] 49))
      replace M := M.alloc (.cells #[.int .i64 (x - 12), .int .i64 (y - 12), .int .i64 (x - 12 + 1), .int .i64 (y - 12 + 1 + h)] 49)
      replace ob := hid (World.ownsRow.alloc ob.out (.cells #[.int .i64 (x - 12), .int .i64 (y - 12), .int .i64 (x - 12 + 1), .int .i64 (y - 12 + 1 + h)] 49))
      replace hPe := hid hPe
      refine (next_any B 2 _ S (by omega) (by omega)).mono ?_
      rintro e w6 ⟨t, rfl, t0, t1, S2, M2⟩
      have M3 := M.same M2
      replace S := S2
      replace ob := hid (M2.own hBw ob.out)
      replace hP := hid (hP.out.mut M2 (by simp; omega))
      clear M M2 S2
      have M := M3
      clear M3
      by_cases ht : t = 0
      · subst ht
        go_wp2_with fail
        refine (next_any B 12 _ S (by omega) (by omega)).mono ?_
        rintro e w7 ⟨k, rfl, k0, k1, S2, M2⟩
        have M3 := M.same M2
        replace S := S2
        replace ob := hid (M2.own hBw ob.out)
        replace hP := hid (hP.out.mut M2 (by simp; omega))
        clear M M2 S2
        have M := M3
        clear M3
        have k0 := hP.out.cells 0
        have k1 := hP.out.cells 1
        have k2 := hP.out.cells 2
        have k3 := hP.out.cells 3
        have kf := hP.out.free
        try simp only [List.set_cons_zero, List.set_cons_succ] at k0 k1 k2 k3
        simp only [List.getElem?_cons_zero, List.getElem?_cons_succ] at k0 k1 k2 k3
        have hPl := hP.out.lt
        go_wp2_with fail
        replace S := S.young hPB 0 (.int .i64 (x - 12))
        replace M := M.setYoung (j := 0) hPw (.int .i64 (x - 12))
        replace ob := hid (owns_other ob.out hRPo.out 0 (.int .i64 (x - 12)))
        replace hP := hid (hP.out.set 0 (.int .i64 (x - 12)))
        replace S := S.young hPB 1 (.int .i64 (y - 12))
        replace M := M.setYoung (j := 1) hPw (.int .i64 (y - 12))
        replace ob := hid (owns_other ob.out hRPo.out 1 (.int .i64 (y - 12)))
        replace hP := hid (hP.out.set 1 (.int .i64 (y - 12)))
        replace S := S.young hPB 2 (.int .i64 (x - 12 + 1 + k))
        replace M := M.setYoung (j := 2) hPw (.int .i64 (x - 12 + 1 + k))
        replace ob := hid (owns_other ob.out hRPo.out 2 (.int .i64 (x - 12 + 1 + k)))
        replace hP := hid (hP.out.set 2 (.int .i64 (x - 12 + 1 + k)))
        replace S := S.young hPB 3 (.int .i64 (y - 12 + 1))
        replace M := M.setYoung (j := 3) hPw (.int .i64 (y - 12 + 1))
        replace ob := hid (owns_other ob.out hRPo.out 3 (.int .i64 (y - 12 + 1)))
        replace hP := hid (hP.out.set 3 (.int .i64 (y - 12 + 1)))
        clear k0 k1 k2 k3 kf hPl
        refine (next_any B 8 _ S (by omega) (by omega)).mono ?_
        rintro e wz ⟨z, rfl, z0, z1, S2, M2⟩
        have M3 := M.same M2
        replace S := S2
        replace ob := hid (M2.own hBw ob.out)
        replace hP := hid (hP.out.mut M2 (by simp; omega))
        clear M M2 S2
        have M := M3
        clear M3
        by_cases hz : z = 0
        · subst hz
          have k0 := hP.out.cells 0
          have k1 := hP.out.cells 1
          have k2 := hP.out.cells 2
          have k3 := hP.out.cells 3
          have kf := hP.out.free
          try simp only [List.set_cons_zero, List.set_cons_succ] at k0 k1 k2 k3
          simp only [List.getElem?_cons_zero, List.getElem?_cons_succ] at k0 k1 k2 k3
          have hPl := hP.out.lt
          go_wp2_with fail
          replace S := S.young hPB 1 (.int .i64 (-40))
          replace M := M.setYoung (j := 1) hPw (.int .i64 (-40))
          replace ob := hid (owns_other ob.out hRPo.out 1 (.int .i64 (-40)))
          replace hP := hid (hP.out.set 1 (.int .i64 (-40)))
          replace S := S.young hPB 3 (.int .i64 40)
          replace M := M.setYoung (j := 3) hPw (.int .i64 40)
          replace ob := hid (owns_other ob.out hRPo.out 3 (.int .i64 40))
          replace hP := hid (hP.out.set 3 (.int .i64 40))
          clear k0 k1 k2 k3 kf hPl
          obtain ⟨va, vc, hP, hva⟩ : ∃ va vc : Int, Hid (Blk _ P [.int .i64 va, .int .i64 (-40), .int .i64 vc, .int .i64 40] 49) ∧ ((-12 ≤ va ∧ va ≤ 30) ∧ vc ≤ 23) := ⟨_, _, hP, by omega⟩
          have k0 := hP.out.cells 0
          have k1 := hP.out.cells 1
          have k2 := hP.out.cells 2
          have k3 := hP.out.cells 3
          simp only [List.getElem?_cons_zero, List.getElem?_cons_succ] at k0 k1 k2 k3
          have hPl := hP.out.lt
          go_loopw [8, 9] (fun v _ wr => ∃ (y : Int) (g : Grid), v = .int .i64 y ∧ (-40) ≤ y ∧ y ≤ 1000 ∧ Src wr B ∧ Mut w wr [B] ∧ Hid (wr.ownsRow w.heap.size 4 1 (.slice (some ⟨RB, 0, none⟩) 6400 6400) 6400 (gcells g)) ∧ Hid (Zn g) ∧ Hid (Blk wr P [.int .i64 va, .int .i64 (-40), .int .i64 vc, .int .i64 40] 49)) (fun v _ _ => (1100 - intOf v).toNat)
          case atStart => exact ⟨(-40), g, rfl, by omega, by omega, S, M, ob, zn, hP⟩
          case round =>
            clear S M ob zn hP k0 k1 k2 k3 hPl
            obtain ⟨y, g, rfl, hy0, hy1, S, M, ob, zn, hP⟩ := hrel
            have k0 := hP.out.cells 0
            have k2 := hP.out.cells 2
            have k3 := hP.out.cells 3
            simp only [List.getElem?_cons_zero, List.getElem?_cons_succ] at k0 k2 k3
            have hPl := hP.out.lt
            by_cases hyd : y < 40
            · go_wp2_with fail
              go_loopw [9] (fun v wr => ∃ (x : Int) (g : Grid), v = .int .i64 x ∧ va ≤ x ∧ x ≤ 1000 ∧ Src wr B ∧ Mut w wr [B] ∧ Hid (wr.ownsRow w.heap.size 4 1 (.slice (some ⟨RB, 0, none⟩) 6400 6400) 6400 (gcells g)) ∧ Hid (Zn g) ∧ Hid (Blk wr P [.int .i64 va, .int .i64 (-40), .int .i64 vc, .int .i64 40] 49)) (fun v _ => (1100 - intOf v).toNat)
              case atStart => exact ⟨va, g, rfl, by omega, by omega, S, M, ob, zn, hP⟩
              case round =>
                clear S M ob zn hP k0 k2 k3 hPl
                obtain ⟨x, g, rfl, hx0, hx1, S, M, ob, zn, hP⟩ := hrel
                have k2 := hP.out.cells 2
                simp only [List.getElem?_cons_zero, List.getElem?_cons_succ] at k2
                have hPl := hP.out.lt
                by_cases hxc : x < vc
                · have hc : onC x y = true := by rw [onC_iff]; omega
                  have hat := atG_lt hc
                  have hatI : (atG x y : Int) < 6400 := by omega
                  obtain ⟨v0, e0⟩ := owns_cell ob.out (atG x y) (by omega)
                  have hf := owns_free ob.out
                  have hRBl := hid (owns_lt ob.out)
                  have hcz := hid hc
                  have hc := hid hc
                  go_wp2_with (go_at_call 54; refine (l03At_any _ _ _ hc.out).mono ?_; rintro e w' ⟨rfl, rfl⟩)
                  go_roundw
                  case rel => exact ⟨x + 1, gset g (atG x y) true, rfl, by omega, by omega, S.mut ((Mut.refl _ [RB]).setCell (p := ⟨RB, atG x y, none⟩) (by simp) _) (by simp; omega), M.setYoung hRBl.out.1 _, hid (by rw [← gcells_set]; exact owns_set ob.out _ _), hid (zn.out.put hcz.out (by omega) (by omega)), hid (hP.out.other _ _ hRP)⟩
                  case measure => simp [intOf] <;> omega
                · go_wp2_with fail
                  go_roundw
                  case rel => exact ⟨y + 1, g, rfl, by omega, by omega, S, M, ob, zn, hP⟩
                  case measure => simp [intOf] <;> omega
            · go_wp2_with fail
              go_roundw
              case rel => exact ⟨m - 1, g, rfl, by omega, by omega, S, M, ob, zn⟩
              case measure => simp [intOf] <;> omega
        · have hzb : (z == 0) = false := by simpa using hz
          clear hz
          obtain ⟨va, vb, vc, vd, hP, hva, hvb⟩ : ∃ va vb vc vd : Int, Hid (Blk _ P [.int .i64 va, .int .i64 vb, .int .i64 vc, .int .i64 vd] 49) ∧ ((-12 ≤ va ∧ va ≤ 30) ∧ vc ≤ 23) ∧ ((-40 ≤ vb ∧ vb ≤ 30) ∧ vd ≤ 40) := ⟨_, _, _, _, hP, by omega, by omega⟩
          have k0 := hP.out.cells 0
          have k1 := hP.out.cells 1
          have k2 := hP.out.cells 2
          have k3 := hP.out.cells 3
          simp only [List.getElem?_cons_zero, List.getElem?_cons_succ] at k0 k1 k2 k3
          have hPl := hP.out.lt
          go_wp2_with fail
          go_loopw [8, 9] (fun v _ wr => ∃ (y : Int) (g : Grid), v = .int .i64 y ∧ vb ≤ y ∧ y ≤ 1000 ∧ Src wr B ∧ Mut w wr [B] ∧ Hid (wr.ownsRow w.heap.size 4 1 (.slice (some ⟨RB, 0, none⟩) 6400 6400) 6400 (gcells g)) ∧ Hid (Zn g) ∧ Hid (Blk wr P [.int .i64 va, .int .i64 vb, .int .i64 vc, .int .i64 vd] 49)) (fun v _ _ => (1100 - intOf v).toNat)
          case atStart => exact ⟨vb, g, rfl, by omega, by omega, S, M, ob, zn, hP⟩
          case round =>
            clear S M ob zn hP k0 k1 k2 k3 hPl
            obtain ⟨y, g, rfl, hy0, hy1, S, M, ob, zn, hP⟩ := hrel
            have k0 := hP.out.cells 0
            have k2 := hP.out.cells 2
            have k3 := hP.out.cells 3
            simp only [List.getElem?_cons_zero, List.getElem?_cons_succ] at k0 k2 k3
            have hPl := hP.out.lt
            by_cases hyd : y < vd
            · go_wp2_with fail
              go_loopw [9] (fun v wr => ∃ (x : Int) (g : Grid), v = .int .i64 x ∧ va ≤ x ∧ x ≤ 1000 ∧ Src wr B ∧ Mut w wr [B] ∧ Hid (wr.ownsRow w.heap.size 4 1 (.slice (some ⟨RB, 0, none⟩) 6400 6400) 6400 (gcells g)) ∧ Hid (Zn g) ∧ Hid (Blk wr P [.int .i64 va, .int .i64 vb, .int .i64 vc, .int .i64 vd] 49)) (fun v _ => (1100 - intOf v).toNat)
              case atStart => exact ⟨va, g, rfl, by omega, by omega, S, M, ob, zn, hP⟩
              case round =>
                clear S M ob zn hP k0 k2 k3 hPl
                obtain ⟨x, g, rfl, hx0, hx1, S, M, ob, zn, hP⟩ := hrel
                have k2 := hP.out.cells 2
                simp only [List.getElem?_cons_zero, List.getElem?_cons_succ] at k2
                have hPl := hP.out.lt
                by_cases hxc : x < vc
                · have hc : onC x y = true := by rw [onC_iff]; omega
                  have hat := atG_lt hc
                  have hatI : (atG x y : Int) < 6400 := by omega
                  obtain ⟨v0, e0⟩ := owns_cell ob.out (atG x y) (by omega)
                  have hf := owns_free ob.out
                  have hRBl := hid (owns_lt ob.out)
                  have hcz := hid hc
                  have hc := hid hc
                  go_wp2_with (go_at_call 54; refine (l03At_any _ _ _ hc.out).mono ?_; rintro e w' ⟨rfl, rfl⟩)
                  go_roundw
                  case rel => exact ⟨x + 1, gset g (atG x y) true, rfl, by omega, by omega, S.mut ((Mut.refl _ [RB]).setCell (p := ⟨RB, atG x y, none⟩) (by simp) _) (by simp; omega), M.setYoung hRBl.out.1 _, hid (by rw [← gcells_set]; exact owns_set ob.out _ _), hid (zn.out.put hcz.out (by omega) (by omega)), hid (hP.out.other _ _ hRP)⟩
                  case measure => simp [intOf] <;> omega
                · go_wp2_with fail
                  go_roundw
                  case rel => exact ⟨y + 1, g, rfl, by omega, by omega, S, M, ob, zn, hP⟩
                  case measure => simp [intOf] <;> omega
            · go_wp2_with fail
              go_roundw
              case rel => exact ⟨m - 1, g, rfl, by omega, by omega, S, M, ob, zn⟩
              case measure => simp [intOf] <;> omega
      · have htb : (t == 0) = false := by simpa using ht
        clear ht
        go_wp2_with fail
        refine (next_any B 8 _ S (by omega) (by omega)).mono ?_
        rintro e wz ⟨z, rfl, z0, z1, S2, M2⟩
        have M3 := M.same M2
        replace S := S2
        replace ob := hid (M2.own hBw ob.out)
        replace hP := hid (hP.out.mut M2 (by simp; omega))
        clear M M2 S2
        have M := M3
        clear M3
        by_cases hz : z = 0
        · subst hz
          have k0 := hP.out.cells 0
          have k1 := hP.out.cells 1
          have k2 := hP.out.cells 2
          have k3 := hP.out.cells 3
          have kf := hP.out.free
          try simp only [List.set_cons_zero, List.set_cons_succ] at k0 k1 k2 k3
          simp only [List.getElem?_cons_zero, List.getElem?_cons_succ] at k0 k1 k2 k3
          have hPl := hP.out.lt
          go_wp2_with fail
          replace S := S.young hPB 1 (.int .i64 (-40))
          replace M := M.setYoung (j := 1) hPw (.int .i64 (-40))
          replace ob := hid (owns_other ob.out hRPo.out 1 (.int .i64 (-40)))
          replace hP := hid (hP.out.set 1 (.int .i64 (-40)))
          replace S := S.young hPB 3 (.int .i64 40)
          replace M := M.setYoung (j := 3) hPw (.int .i64 40)
          replace ob := hid (owns_other ob.out hRPo.out 3 (.int .i64 40))
          replace hP := hid (hP.out.set 3 (.int .i64 40))
          clear k0 k1 k2 k3 kf hPl
          obtain ⟨va, vc, hP, hva⟩ : ∃ va vc : Int, Hid (Blk _ P [.int .i64 va, .int .i64 (-40), .int .i64 vc, .int .i64 40] 49) ∧ ((-12 ≤ va ∧ va ≤ 30) ∧ vc ≤ 23) := ⟨_, _, hP, by omega⟩
          have k0 := hP.out.cells 0
          have k1 := hP.out.cells 1
          have k2 := hP.out.cells 2
          have k3 := hP.out.cells 3
          simp only [List.getElem?_cons_zero, List.getElem?_cons_succ] at k0 k1 k2 k3
          have hPl := hP.out.lt
          go_loopw [8, 9] (fun v _ wr => ∃ (y : Int) (g : Grid), v = .int .i64 y ∧ (-40) ≤ y ∧ y ≤ 1000 ∧ Src wr B ∧ Mut w wr [B] ∧ Hid (wr.ownsRow w.heap.size 4 1 (.slice (some ⟨RB, 0, none⟩) 6400 6400) 6400 (gcells g)) ∧ Hid (Zn g) ∧ Hid (Blk wr P [.int .i64 va, .int .i64 (-40), .int .i64 vc, .int .i64 40] 49)) (fun v _ _ => (1100 - intOf v).toNat)
          case atStart => exact ⟨(-40), g, rfl, by omega, by omega, S, M, ob, zn, hP⟩
          case round =>
            clear S M ob zn hP k0 k1 k2 k3 hPl
            obtain ⟨y, g, rfl, hy0, hy1, S, M, ob, zn, hP⟩ := hrel
            have k0 := hP.out.cells 0
            have k2 := hP.out.cells 2
            have k3 := hP.out.cells 3
            simp only [List.getElem?_cons_zero, List.getElem?_cons_succ] at k0 k2 k3
            have hPl := hP.out.lt
            by_cases hyd : y < 40
            · go_wp2_with fail
              go_loopw [9] (fun v wr => ∃ (x : Int) (g : Grid), v = .int .i64 x ∧ va ≤ x ∧ x ≤ 1000 ∧ Src wr B ∧ Mut w wr [B] ∧ Hid (wr.ownsRow w.heap.size 4 1 (.slice (some ⟨RB, 0, none⟩) 6400 6400) 6400 (gcells g)) ∧ Hid (Zn g) ∧ Hid (Blk wr P [.int .i64 va, .int .i64 (-40), .int .i64 vc, .int .i64 40] 49)) (fun v _ => (1100 - intOf v).toNat)
              case atStart => exact ⟨va, g, rfl, by omega, by omega, S, M, ob, zn, hP⟩
              case round =>
                clear S M ob zn hP k0 k2 k3 hPl
                obtain ⟨x, g, rfl, hx0, hx1, S, M, ob, zn, hP⟩ := hrel
                have k2 := hP.out.cells 2
                simp only [List.getElem?_cons_zero, List.getElem?_cons_succ] at k2
                have hPl := hP.out.lt
                by_cases hxc : x < vc
                · have hc : onC x y = true := by rw [onC_iff]; omega
                  have hat := atG_lt hc
                  have hatI : (atG x y : Int) < 6400 := by omega
                  obtain ⟨v0, e0⟩ := owns_cell ob.out (atG x y) (by omega)
                  have hf := owns_free ob.out
                  have hRBl := hid (owns_lt ob.out)
                  have hcz := hid hc
                  have hc := hid hc
                  go_wp2_with (go_at_call 54; refine (l03At_any _ _ _ hc.out).mono ?_; rintro e w' ⟨rfl, rfl⟩)
                  go_roundw
                  case rel => exact ⟨x + 1, gset g (atG x y) true, rfl, by omega, by omega, S.mut ((Mut.refl _ [RB]).setCell (p := ⟨RB, atG x y, none⟩) (by simp) _) (by simp; omega), M.setYoung hRBl.out.1 _, hid (by rw [← gcells_set]; exact owns_set ob.out _ _), hid (zn.out.put hcz.out (by omega) (by omega)), hid (hP.out.other _ _ hRP)⟩
                  case measure => simp [intOf] <;> omega
                · go_wp2_with fail
                  go_roundw
                  case rel => exact ⟨y + 1, g, rfl, by omega, by omega, S, M, ob, zn, hP⟩
                  case measure => simp [intOf] <;> omega
            · go_wp2_with fail
              go_roundw
              case rel => exact ⟨m - 1, g, rfl, by omega, by omega, S, M, ob, zn⟩
              case measure => simp [intOf] <;> omega
        · have hzb : (z == 0) = false := by simpa using hz
          clear hz
          obtain ⟨va, vb, vc, vd, hP, hva, hvb⟩ : ∃ va vb vc vd : Int, Hid (Blk _ P [.int .i64 va, .int .i64 vb, .int .i64 vc, .int .i64 vd] 49) ∧ ((-12 ≤ va ∧ va ≤ 30) ∧ vc ≤ 23) ∧ ((-40 ≤ vb ∧ vb ≤ 30) ∧ vd ≤ 40) := ⟨_, _, _, _, hP, by omega, by omega⟩
          have k0 := hP.out.cells 0
          have k1 := hP.out.cells 1
          have k2 := hP.out.cells 2
          have k3 := hP.out.cells 3
          simp only [List.getElem?_cons_zero, List.getElem?_cons_succ] at k0 k1 k2 k3
          have hPl := hP.out.lt
          go_wp2_with fail
          go_loopw [8, 9] (fun v _ wr => ∃ (y : Int) (g : Grid), v = .int .i64 y ∧ vb ≤ y ∧ y ≤ 1000 ∧ Src wr B ∧ Mut w wr [B] ∧ Hid (wr.ownsRow w.heap.size 4 1 (.slice (some ⟨RB, 0, none⟩) 6400 6400) 6400 (gcells g)) ∧ Hid (Zn g) ∧ Hid (Blk wr P [.int .i64 va, .int .i64 vb, .int .i64 vc, .int .i64 vd] 49)) (fun v _ _ => (1100 - intOf v).toNat)
          case atStart => exact ⟨vb, g, rfl, by omega, by omega, S, M, ob, zn, hP⟩
          case round =>
            clear S M ob zn hP k0 k1 k2 k3 hPl
            obtain ⟨y, g, rfl, hy0, hy1, S, M, ob, zn, hP⟩ := hrel
            have k0 := hP.out.cells 0
            have k2 := hP.out.cells 2
            have k3 := hP.out.cells 3
            simp only [List.getElem?_cons_zero, List.getElem?_cons_succ] at k0 k2 k3
            have hPl := hP.out.lt
            by_cases hyd : y < vd
            · go_wp2_with fail
              go_loopw [9] (fun v wr => ∃ (x : Int) (g : Grid), v = .int .i64 x ∧ va ≤ x ∧ x ≤ 1000 ∧ Src wr B ∧ Mut w wr [B] ∧ Hid (wr.ownsRow w.heap.size 4 1 (.slice (some ⟨RB, 0, none⟩) 6400 6400) 6400 (gcells g)) ∧ Hid (Zn g) ∧ Hid (Blk wr P [.int .i64 va, .int .i64 vb, .int .i64 vc, .int .i64 vd] 49)) (fun v _ => (1100 - intOf v).toNat)
              case atStart => exact ⟨va, g, rfl, by omega, by omega, S, M, ob, zn, hP⟩
              case round =>
                clear S M ob zn hP k0 k2 k3 hPl
                obtain ⟨x, g, rfl, hx0, hx1, S, M, ob, zn, hP⟩ := hrel
                have k2 := hP.out.cells 2
                simp only [List.getElem?_cons_zero, List.getElem?_cons_succ] at k2
                have hPl := hP.out.lt
                by_cases hxc : x < vc
                · have hc : onC x y = true := by rw [onC_iff]; omega
                  have hat := atG_lt hc
                  have hatI : (atG x y : Int) < 6400 := by omega
                  obtain ⟨v0, e0⟩ := owns_cell ob.out (atG x y) (by omega)
                  have hf := owns_free ob.out
                  have hRBl := hid (owns_lt ob.out)
                  have hcz := hid hc
                  have hc := hid hc
                  go_wp2_with (go_at_call 54; refine (l03At_any _ _ _ hc.out).mono ?_; rintro e w' ⟨rfl, rfl⟩)
                  go_roundw
                  case rel => exact ⟨x + 1, gset g (atG x y) true, rfl, by omega, by omega, S.mut ((Mut.refl _ [RB]).setCell (p := ⟨RB, atG x y, none⟩) (by simp) _) (by simp; omega), M.setYoung hRBl.out.1 _, hid (by rw [← gcells_set]; exact owns_set ob.out _ _), hid (zn.out.put hcz.out (by omega) (by omega)), hid (hP.out.other _ _ hRP)⟩
                  case measure => simp [intOf] <;> omega
                · go_wp2_with fail
                  go_roundw
                  case rel => exact ⟨y + 1, g, rfl, by omega, by omega, S, M, ob, zn, hP⟩
                  case measure => simp [intOf] <;> omega
            · go_wp2_with fail
              go_roundw
              case rel => exact ⟨m - 1, g, rfl, by omega, by omega, S, M, ob, zn⟩
              case measure => simp [intOf] <;> omega
    · have hmz : m = 0 := by omega
      subst hmz
      have hbt := hid (Bits.of ob.out)
      go_wp2_with fail
      refine (l03Canon_any RB 6400 g _ hbt.out).mono ?_
      rintro e w8 ⟨q8, c8, rfl, o8, E8⟩
      have hwr := hid M.size
      replace S := S.ext E8
      replace M := M.ext E8
      replace o8 := hid (owns_lowD o8 hwr.out)
      have hcl := canon_len g
      clear E8 ob hbt
      go_wp2_with fail
      refine (next_any B 24 _ S (by omega) (by omega)).mono ?_
      rintro e w9 ⟨t, rfl, t0, t1, S2, M2⟩
      have o9 := hid (M2.own hBw o8.out)
      have M9 := M.same M2
      clear S M o8 M2
      by_cases ht : t = 0
      · have o9a := hid (World.ownsRow.alloc o9.out (.cells #[.int .i64 0, .int .i64 0, .int .i64 1, .int .i64 1] 49))
        have M9a := hid (M9.alloc (.cells #[.int .i64 0, .int .i64 0, .int .i64 1, .int .i64 1] 49))
        have S9a := hid (S2.ext ((Ext.refl _).alloc (.cells #[.int .i64 0, .int .i64 0, .int .i64 1, .int .i64 1] 49)))
        have hbase : w.heap.size ≤ (w9.alloc (.cells #[.int .i64 0, .int .i64 0, .int .i64 1, .int .i64 1] 49)).heap.size := (M9.alloc _).size
        go_wp2_with (at_builtin; refine wpList_append_own_at _ rfl _ _ 42 rfl w.heap.size 49 i0 _ 4 32 Try.underlying42 hi hz0 hz1 hz2 rfl (by omega) _ _ _ rfl o9a.out ⟨_, 0, none⟩ 1 1 [.int .i64 0, .int .i64 0, .int .i64 1, .int .i64 1] rfl rfl (cells_new _ [_, _, _, _] _) (one_int4 _ _ _ _) (len_le (by omega) (by omega)) (by omega) hbase ?_; intro v' wA ho' hg' _ hb'; obtain ⟨qa, ca, rfl⟩ := owns_forms ho'; have MA := hid (M9a.out.young (fun k hk => (o9a.out.lt k hk).1) hg'); have SA := hid (S9a.out.mutNone hg' (fun k hk => by have h7 := (o9a.out.lt k hk).1; omega)); replace ho' := hid ho'; clear hg' hb')
        go_ret
        have hO : World.ownsRow wA w.heap.size 49 4 (.slice qa ((canon g).length + 1) ca) ((canon g).length + 1) ((canon g ++ [(⟨0, 0, 1, 1⟩ : Q4)]).flatMap enc4) := by rw [List.flatMap_append]; exact ho'.out
        exact ⟨qa, _, ca, canon g ++ [(⟨0, 0, 1, 1⟩ : Q4)], rfl, SlT.of_owns enc4_len (by rw [List.length_append]; rfl) hO, by omega, fun a ha => (hO.lt a.block (by rw [ha]; rfl)).1, SA.out, MA.out, zn.out.canon.more⟩
      · go_wp2_with fail
        go_ret
        exact ⟨q8, _, c8, canon g, rfl, SlT.of_owns enc4_len rfl o9.out, by omega, fun a ha => (o9.out.lt a.block (by rw [ha]; rfl)).1, S2, M9, zn.out.canon⟩
theorem drawBlocked_any (B : Nat) (w : World) (hS : Src w B) :
    Calls Try.prog 79 #[.pointer (some ⟨B, 0, none⟩)] w (DrwL B w) :=
  (drawBlockedZ_any B w hS).mono fun _ _ ⟨q, n, c, l, h1, h2, h3, h4, h5, h6, _⟩ => ⟨q, n, c, l, h1, h2, h3, h4, h5, h6⟩
end Go.Proofs.Ytiljojpnbpdaeaa
