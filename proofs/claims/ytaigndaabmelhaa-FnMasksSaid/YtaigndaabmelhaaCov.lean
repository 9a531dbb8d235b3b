/- Contracts of common, area, dense, coveredCells, DensityWindows. Condition: valid rectangles. -/
import Derived.Test.YtaigndaabmelhaaReg
import Derived.Test.YtaigndaabmelhaaWin
namespace Go.Proofs.Ytaigndaabmelhaa
open Go.RowKit

def comQ (p q : Q4) : Q4 := ⟨max p.a q.a, max p.b q.b, min p.c q.c, min p.d q.d⟩
theorem comQ_area (p q : Q4) : (if vR (comQ p q) = true then areaQ (comQ p q) else 0) = if vR p = true ∧ vR q = true then comA p q else (if vR (comQ p q) = true then areaQ (comQ p q) else 0) := by
  by_cases h : vR p = true ∧ vR q = true
  · rw [if_pos h]
    obtain ⟨h1, h2⟩ := h
    rw [vR_iff] at h1 h2
    rw [comA, areaQ]
    by_cases hv : vR (comQ p q) = true
    · rw [if_pos hv]
      rw [vR_iff] at hv
      simp only [comQ] at hv ⊢
      rw [show (((min p.d q.d - max p.b q.b).toNat : Nat) : Int) = min p.d q.d - max p.b q.b by omega, show (((min p.c q.c - max p.a q.a).toNat : Nat) : Int) = min p.c q.c - max p.a q.a by omega, Int.mul_comm]
    · rw [if_neg hv]
      rw [vR_iff] at hv
      simp only [comQ] at hv
      by_cases hx : min p.c q.c ≤ max p.a q.a
      · rw [show (min p.c q.c - max p.a q.a).toNat = 0 by omega]; simp
      · rw [show (min p.d q.d - max p.b q.b).toNat = 0 by omega]; simp
  · rw [if_neg h]
set_option maxHeartbeats 4000000 in
theorem common_any (p q : Q4) (w : World) :
    Calls Try.prog 117 #[.agg #[.int .i64 p.a, .int .i64 p.b, .int .i64 p.c, .int .i64 p.d], .agg #[.int .i64 q.a, .int .i64 q.b, .int .i64 q.c, .int .i64 q.d]] w
      fun e w' => e = .returned (.agg #[.int .i64 (comQ p q).a, .int .i64 (comQ p q).b, .int .i64 (comQ p q).c, .int .i64 (comQ p q).d]) ∧ Ext w w' := by
  go_enter Try.func117, Try.ntmps117
  go_wp2
  all_goals
    refine bodyPost_ret (v := .agg #[.int .i64 (comQ p q).a, .int .i64 (comQ p q).b, .int .i64 (comQ p q).c, .int .i64 (comQ p q).d]) (by simp [results, Try.results117, go_sem, comQ]; omega) rfl ⟨rfl, ?_⟩
    exact (((Ext.refl _).alloc _).alloc _).alloc _
set_option maxHeartbeats 1000000 in
theorem area_any (r : Q4) (w : World) (hv : vR r = true) :
    Calls Try.prog 100 #[.agg #[.int .i64 r.a, .int .i64 r.b, .int .i64 r.c, .int .i64 r.d]] w fun e w' => e = .returned (.int .i64 (areaQ r)) ∧ Ext w w' := by
  obtain ⟨h0, h1⟩ := area_bd hv
  have hr : Hid ((r.c - r.a) * (r.d - r.b) = areaQ r) := rfl
  rw [vR_iff] at hv
  obtain ⟨⟨a0, a1, a2⟩, b0, b1, b2⟩ := hv
  go_enter Try.func100, Try.ntmps100
  go_wp2
  go_ret
  exact ⟨ret_int hr.out, (Ext.refl _).alloc _⟩
theorem areaQ_bd {r : Q4} (h : vR r = true) : 0 ≤ areaQ r ∧ areaQ r ≤ 6400 := area_bd h
set_option maxHeartbeats 1000000 in
theorem dense_any (v : Int) (r : Q4) (p : Int) (w : World) (hv : vR r = true) (h0 : 0 ≤ v) (h1 : v ≤ 6400) (p0 : 1 ≤ p) (p1 : p ≤ 100) :
    Calls Try.prog 97 #[.int .i64 v, .agg #[.int .i64 r.a, .int .i64 r.b, .int .i64 r.c, .int .i64 r.d], .int .i64 p] w fun e w' => e = .returned (.bool (denseB v r p)) ∧ Ext w w' := by
  obtain ⟨a0, a1⟩ := areaQ_bd hv
  have hr : Hid (decide (p * areaQ r ≤ 100 * v) = denseB v r p) := rfl
  have m0 : 0 ≤ p * areaQ r := Int.mul_nonneg (by omega) a0
  have m1 : p * areaQ r ≤ 640000 := by
    have h1 := Int.mul_le_mul_of_nonneg_left a1 (show 0 ≤ p by omega)
    have h2 := Int.mul_le_mul_of_nonneg_right p1 (show (0 : Int) ≤ 6400 by omega)
    omega
  have hv := hid hv
  go_enter Try.func97, Try.ntmps97
  go_wp2_with fail
  refine (area_any r _ hv.out).mono ?_
  rintro e w2 ⟨rfl, E2⟩
  go_wp2_with fail
  go_ret
  exact ⟨ret_bool hr.out, ((Ext.refl _).alloc _).trans E2⟩
theorem comA_bd {s r : Q4} (h : vR r = true) : 0 ≤ comA s r ∧ comA s r ≤ 6400 := by
  rw [vR_iff] at h
  rw [comA]
  have h1 : (min s.d r.d - max s.b r.b).toNat ≤ 80 := by omega
  have h2 : (min s.c r.c - max s.a r.a).toNat ≤ 80 := by omega
  have := Nat.mul_le_mul h1 h2
  rw [← Int.natCast_mul]
  omega
theorem covL_bd {r : Q4} (h : vR r = true) : ∀ l : List Q4, 0 ≤ covL l r ∧ covL l r ≤ 6400 * (l.length : Int)
  | [] => by simp [covL]
  | s :: l => by
    have h1 := comA_bd (s := s) h
    have h2 := covL_bd h l
    rw [covL_cons, List.length_cons]; omega
theorem covL_append (l m : List Q4) (r : Q4) : covL (l ++ m) r = covL l r + covL m r := by
  induction l with
  | nil => simp [covL]
  | cons s l ih => rw [List.cons_append, covL_cons, covL_cons, ih]; omega
theorem com_hit {s r : Q4} (hs : vR s = true) (hr : vR r = true) (h : vR (comQ s r) = true) : areaQ (comQ s r) = comA s r := by
  have := comQ_area s r
  rw [if_pos h, if_pos ⟨hs, hr⟩] at this; exact this
theorem com_miss {s r : Q4} (hs : vR s = true) (hr : vR r = true) (h : vR (comQ s r) = false) : comA s r = 0 := by
  have := comQ_area s r
  rw [if_neg (by rw [h]; simp), if_pos ⟨hs, hr⟩] at this; exact this.symm
set_option maxRecDepth 100000 in
set_option maxHeartbeats 4000000 in
theorem coveredCells_any (q : Option Addr) (n c : Nat) (l : List Q4) (r : Q4) (w : World) (h : SlT enc4 4 w q n l) (hn : n ≤ 1048576) (hv : ∀ s ∈ l, vR s = true) (hr : vR r = true) :
    Calls Try.prog 96 #[.slice q n c, .agg #[.int .i64 r.a, .int .i64 r.b, .int .i64 r.c, .int .i64 r.d]] w fun e w' => e = .returned (.int .i64 (covL l r)) ∧ Ext w w' := by
  have hl := hid h.length
  replace hv := hid hv
  replace hr := hid hr
  go_enter Try.func96, Try.ntmps96
  go_wp2_with fail
  generalize hW : w.alloc _ = W0
  obtain ⟨E0, z0, b0⟩ := boxes1 hW
  clear hW
  have b1 := hid (show Blk W0 w.heap.size [_, _, _, _] _ from b0)
  clear b0
  replace z0 := hid z0
  go_loopw [5, 11] (fun a i wr => ∃ k : Nat, k ≤ n ∧ i = .int .i64 k ∧ a = .int .i64 (covL (l.take k) r) ∧ Ext W0 wr) (fun _ i _ => n - (intOf i).toNat)
  case atStart => exact ⟨0, by omega, rfl, rfl, Ext.refl _⟩
  case round =>
    obtain ⟨k, hk, rfl, rfl, hE⟩ := hrel
    have hbd := covL_bd hr.out (l.take k)
    have hkl : (l.take k).length ≤ k := List.length_take_le _ _
    by_cases hlt : k < n
    · obtain ⟨b, off, s, rfl, hb, hs, c0, c1, c2, c3⟩ := (h.ext (E0.trans hE)).four hlt
      have hvs := hid (hv.out s (List.mem_of_getElem? hs.out))
      have hcb := comA_bd (s := s) hr.out
      have hkI : (k : Int) < n := by omega
      have hS2 : Hid (covL (l.take k) r + comA s r = covL (l.take (k + 1)) r) := by
        show _ = _
        rw [take_snoc hs.out, covL_append, covL_cons]; simp [covL]
      obtain ⟨A, hA⟩ : ∃ A, A = covL (l.take k) r := ⟨_, rfl⟩
      rw [← hA] at hbd hS2 ⊢
      replace hA := hid hA
      have hb2 := b1.out.ext hE
      have g := hb2.cells
      have k0 := g 0
      have k1 := g 1
      have k2 := g 2
      have k3 := g 3
      simp only [List.getElem?_cons_zero, List.getElem?_cons_succ] at k0 k1 k2 k3
      have hBl := hb2.lt
      clear g hb2
      go_wp2_with fail
      generalize hW1 : wr.alloc _ = W1
      obtain ⟨E1, z1, b2⟩ := boxes1 hW1
      clear hW1
      replace z1 := hid z1
      replace b2 := hid b2
      refine (common_any s r _).mono ?_
      obtain ⟨C, hC⟩ : ∃ C, C = comQ s r := ⟨_, rfl⟩
      rw [← hC]
      rintro e w2 ⟨rfl, E2⟩
      have hE2 := hid ((hE.trans E1).trans E2)
      clear E1 E2 c0 c1 c2 c3 k0 k1 k2 k3 hb hBl
      cases hvc : vR C with
      | true =>
        have hcall := fun W => IsValidRect_any C W
        rw [hvc] at hcall
        have hCA : Hid (areaQ C = comA s r) := by show _ = _; rw [hC]; exact com_hit hvs.out hr.out (by rw [← hC]; exact hvc)
        have hab := areaQ_bd hvc
        replace hvc := hid hvc
        replace hC := hid hC
        go_wp2_with fail
        generalize hW3 : w2.alloc _ = W3
        obtain ⟨E3, z3, b3⟩ := boxes1 hW3
        clear hW3
        replace z3 := hid z3
        refine (hcall _).mono ?_
        rintro e w4 ⟨rfl, E4⟩
        have b5 := (show Blk W3 w2.heap.size [_, _, _, _] _ from b3).ext E4
        have g := b5.cells
        have k0 := g 0
        have k1 := g 1
        have k2 := g 2
        have k3 := g 3
        simp only [List.getElem?_cons_zero, List.getElem?_cons_succ] at k0 k1 k2 k3
        have hBl := b5.lt
        have hE4 := hid ((hE2.out.trans E3).trans E4)
        clear g b5 b3 E3 E4 hcall
        go_wp2_with fail
        refine (area_any C _ hvc.out).mono ?_
        rintro e w5 ⟨rfl, E5⟩
        have hE5 := hid (hE4.out.trans E5)
        clear k0 k1 k2 k3 E5
        go_wp2_with fail
        go_roundw
        case rel => exact ⟨k + 1, by omega, by go_num, by rw [← hS2.out, hCA.out], hE5.out⟩
        case measure => simp [intOf]; omega
      | false =>
        have hcall := fun W => IsValidRect_any C W
        rw [hvc] at hcall
        have hCA : Hid (comA s r = 0) := com_miss hvs.out hr.out (by rw [← hC]; exact hvc)
        replace hvc := hid hvc
        replace hC := hid hC
        go_wp2_with fail
        refine (hcall _).mono ?_
        rintro e w4 ⟨rfl, E4⟩
        have hE4 := hid ((hE2.out.alloc _).trans E4)
        clear E4 hcall
        go_wp2_with fail
        go_roundw
        case rel => exact ⟨k + 1, by omega, by go_num, by rw [← hS2.out, hCA.out, Int.add_zero], hE4.out⟩
        case measure => simp [intOf]; omega
    · have hkI : ¬ (k : Int) < n := by omega
      have hta : Hid (l.take k = l) := take_all hl.out (by omega)
      go_wp2_with fail
      go_ret
      exact ⟨ret_int (by rw [hta.out]), E0.trans hE⟩
end Go.Proofs.Ytaigndaabmelhaa
