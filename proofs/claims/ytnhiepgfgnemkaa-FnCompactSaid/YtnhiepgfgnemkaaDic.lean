/- DrawIsCompatible: the drawn list, gap and positions. Condition: at most 2^20 bytes of code. -/
import Derived.Test.YtnhiepgfgnemkaaSlw
namespace Go.Proofs.Ytnhiepgfgnemkaa
open Go.RowKit
theorem next_one (B : Nat) (N : Int) (w : World) (h1 : N ≤ 1) :
    Calls Try.prog 78 #[.pointer (some ⟨B, 0, none⟩), .int .i64 N] w fun e w' => e = .returned (.int .i64 0) ∧ w = w' := by
  go_enter Try.func78, Try.ntmps78
  go_wp2_with fail
  go_ret
  exact ⟨rfl, rfl⟩
theorem next_len (B : Nat) (N : Int) (w : World) (hS : Src w B) (h1 : 1 ≤ N) (h2 : N ≤ 100000) :
    Calls Try.prog 78 #[.pointer (some ⟨B, 0, none⟩), .int .i64 N] w (Drawn N B w) := by
  by_cases h : 2 ≤ N
  · exact next_any B N w hS h h2
  · refine (next_one B N w (by omega)).mono ?_
    rintro e w' ⟨rfl, rfl⟩
    exact ⟨0, rfl, by omega, by omega, hS, Mut.refl _ _⟩
theorem Mut.cellk {w w' : World} {S : List Nat} {b : Nat} (m : Mut w w' S) (hn : b ∉ S) (hb : b < w.heap.size) (j : Nat) : w'.cell? ⟨b, j, none⟩ = w.cell? ⟨b, j, none⟩ := World.cell?_of_block (w := w) (a := ⟨b, j, none⟩) (m.block b hb hn)
theorem Mut.setYoung {a b : World} {S : List Nat} (h : Mut a b S) {g j : Nat} (hg : a.heap.size ≤ g) (u : Value) : Mut a (b.setCell ⟨g, j, none⟩ u) S :=
  ⟨h.os, h.tape, h.output, by have := h.size; simp [World.setCell]; omega, fun k hk hn => (Below.heap_setCell _ _ _ _ (fun e => by have e' : k = g := e; omega)).trans (h.block k hk hn)⟩
theorem chg_set {w : World} {base n c g : Nat} {xs : List Int} (h : w.ownsRow base 2 1 (.slice (some ⟨g, 0, none⟩) n c) n (ints xs)) (k : Nat) (v : Int) : (w.setCell ⟨g, k, none⟩ (.int .i64 v)).ownsRow base 2 1 (.slice (some ⟨g, 0, none⟩) n c) n (ints (xs.set k v)) := by
  have h2 := owns_set h k (.int .i64 v)
  rwa [show (ints xs).set k (.int .i64 v) = ints (xs.set k v) by rw [ints, ints, List.map_set]] at h2
/-- What holds of the positions while they are changed. -/
def Chg (B b0 N c : Nat) (q : Option Addr) (w wr : World) (xs : List Int) : Prop := Src wr B ∧ Mut w wr [B] ∧ xs.length = N ∧ wr.ownsRow b0 2 1 (.slice q N c) N (ints xs)
set_option maxRecDepth 100000 in
set_option maxHeartbeats 2000000 in
theorem drawIsCompatible_any (q : Option Addr) (n c : Nat) (l : List Int) (w : World) (h : SlT encU 1 w q n l) (hu : ∀ x ∈ l, 0 ≤ x ∧ x ≤ 255) (hn : n ≤ 1048576) :
    Calls Try.prog 43 #[.slice q n c] w fun e w' => ∃ (p : Option Addr) (d : Nat) (bl : List Q4) (g : Int) (p2 : Option Addr) (d2 : Nat) (xs : List Int), e = .returned (.tuple #[.slice p bl.length d, .int .i64 g, .slice p2 xs.length d2]) ∧ bl.length ≤ 14 ∧ xs.length ≤ 13 ∧ -1 ≤ g ∧ g ≤ 9 ∧ SlT enc4 4 w' p bl.length bl ∧ SlT enc1 1 w' p2 xs.length xs ∧ Ext w w' := by
  obtain ⟨i0, hi, hz0, hz1, hz2⟩ := info_parts info_Int64
  go_enter Try.func43, Try.ntmps43
  go_wp2_with fail
  refine (from_any q n c l _ h hu hn).mono ?_
  rintro e w1 ⟨B, rfl, hwB, S1, E1⟩
  go_wp2_with fail
  refine (drawList_any B _ S1).mono ?_
  rintro e w2 ⟨p, d, bl, rfl, hl, hs, ho, S2, M2⟩
  go_wp2_with fail
  refine (drawGap_any B _ S2).mono ?_
  rintro e w3 ⟨g, rfl, hg0, hg1, S3, M3⟩
  have hob := hid (M3.own S1.lt ho)
  have hbB := hid (fun (a : Addr) (ha : p = some a) => show a.block ∉ [B] by have := (hob.out.lt a.block (by rw [ha]; rfl)).1; have := S1.lt; simp; omega)
  have E3 := hid (E1.then (M2.same M3) (by intro k hk; simp at hk; omega))
  have hB3 := S3.lt
  clear M2 M3 E1 S1 S2 ho
  go_wp2_with fail
  refine (specCompact_any _ _ _ bl g _ (SlT.of_owns enc4_len rfl hob.out) (by omega)).mono ?_
  rintro e w4 ⟨p4, d4, rfl, o4, E4⟩
  obtain ⟨P, hP⟩ : ∃ P, P = posR bl g := ⟨_, rfl⟩
  have hPl := posR_len bl g
  rw [← hP] at o4 hPl ⊢
  obtain ⟨N, hN⟩ : ∃ N, N = P.length := ⟨_, rfl⟩
  rw [← hN] at o4 hPl ⊢
  replace hN := hid hN
  replace hP := hid hP
  have S4 := hid (S3.ext E4)
  replace E3 := hid (E3.out.trans E4)
  have hB4 : B < w4.heap.size := by have := E4.le; omega
  have ho0 : (w4.alloc (.cells #[] 2)).ownsRow w4.heap.size 2 1 (.slice (some ⟨w4.heap.size, 0, none⟩) 0 0) 0 [] := by
    have := World.ownsRow_made (base := w4.heap.size) (e := 2) (size := 1) w4 #[] 0 (by simp) (by simp [maxLen]) (by simp)
    exact this
  have hX4 := hid ((Ext.refl w4).alloc (.cells #[] 2))
  clear S3
  have hbl4 := hid ((SlT.of_owns enc4_len rfl hob.out).ext E4)
  have E4le := hid (E3.out.le)
  clear E4
  cases p4 with
  | none =>
    obtain ⟨hN0, hd0⟩ : N = 0 ∧ d4 = 0 := by
      rcases Joins.ownsRow_forms o4 with ⟨h1, h2⟩ | ⟨gX, c, h1⟩
      · simp at h1; exact h1
      · simp at h1
    subst hN0
    subst hd0
    have hP0 : P = [] := List.eq_nil_of_length_eq_zero hN.out.symm
    go_wp2_with (at_builtin; refine wpList_append_own_none rfl _ _ 23 rfl w4.heap.size 2 i0 1 Try.underlying23 hi _ _ _ rfl ho0 rfl ?_)
    have hX5 := hX4.out
    obtain ⟨w5, hw5⟩ : ∃ W, W = w4.alloc (.cells #[] 2) := ⟨_, rfl⟩
    rw [← hw5] at ho0 hX5 ⊢
    have ho' : w5.ownsRow w4.heap.size 2 1 (.slice (some ⟨w4.heap.size, 0, none⟩) 0 0) 0 (ints P) := by rw [hP0]; exact ho0
    replace hw5 := hid hw5
    replace hP0 := hid hP0
    have hC : Src w5 B ∧ Mut w4 w5 [B] := ⟨S4.out.ext hX5, hX5.mut [B]⟩
    clear o4 ho0 hX5
    go_wp2_with fail
    refine (next_any B 3 _ hC.1 (by omega) (by omega)).mono ?_
    rintro e w6 ⟨r1, rfl, h10, h11, S6, M6⟩
    have hC6 : Chg B w4.heap.size 0 0 (some ⟨w4.heap.size, 0, none⟩) w4 w6 P := ⟨S6, hC.2.same M6, hN.out.symm, M6.own hB4 ho'⟩
    clear hC ho' S6 M6
    obtain ⟨m1, rfl⟩ : ∃ m : Nat, r1 = m := ⟨r1.toNat, by omega⟩
    go_wp2_with fail
    go_loopw [10, 11] (fun k _ wr => ∃ (m : Nat) (xs : List Int), k = .int .i64 m ∧ m ≤ 2 ∧ Chg B w4.heap.size 0 0 (some ⟨w4.heap.size, 0, none⟩) w4 wr xs) (fun k _ _ => (intOf k).toNat)
    case atStart => exact ⟨m1, P, rfl, by omega, hC6⟩
    case round =>
      clear hC6 h10 h11
      obtain ⟨m, xs, rfl, hm2, hC⟩ := hrel
      by_cases hm : 0 < m
      · have hmI : (0 : Int) < m := by omega
        go_wp2_with fail
        refine (next_any B 16 _ hC.1 (by omega) (by omega)).mono ?_
        rintro e w9 ⟨r9, rfl, h90, h91, S9, M9⟩
        have o9 := M9.own hB4 hC.2.2.2
        have M49 := hid (hC.2.1.same M9)
        have hxl := hid hC.2.2.1
        have h94 : w4.heap.size ≤ (w9.alloc (.cells #[.int .i64 3] 2)).heap.size := by have := M49.out.size; simp; omega
        clear hC S9 M9
        by_cases hr0 : r9 = 0
        · subst hr0
          go_wp2_with (at_builtin; refine wpList_append_own_at (o := ⟨some _, _, _, _, _, _⟩) _ rfl _ _ 23 rfl w4.heap.size 2 i0 (.int .i64 0) 1 8 Try.underlying23 hi hz0 hz1 hz2 rfl (by omega) _ _ _ rfl (o9.alloc _) ⟨w9.heap.size, 0, none⟩ 1 1 [.int .i64 3] rfl rfl (cells_new1 _ _ _) (one_int1 _) (len_le (by omega) (by omega)) (by omega) h94 ?_; intro vA wA hoA hgA hnA hbA)
          have MA := hid (Mut.young (M49.out.alloc (.cells #[.int .i64 3] 2)) (fun k hk => (o9.lt k hk).1) hgA)
          obtain ⟨pA, cA, rfl⟩ := owns_forms hoA
          clear hgA hnA hbA
          go_wp2_with fail
          go_ret3
          have hLA : (xs ++ [3]).length = 0 + 1 := by rw [List.length_append, hxl.out]; rfl
          exact ⟨p, d, bl, g, pA, cA, xs ++ [3], by rw [hLA]; rfl, hl, by omega, hg0, hg1, hbl4.out.mut MA.out hbB.out, by rw [hLA]; exact SlT.of_owns enc1_len hLA (by rw [flat1, List.map_append]; exact hoA), E3.out.then MA.out (by intro k hk; simp at hk; omega)⟩
        · have hd : (r9 == 0) = false := by simpa using hr0
          go_wp2_with fail
          go_ret3
          exact ⟨p, d, bl, g, some ⟨w4.heap.size, 0, none⟩, 0, xs, by rw [hxl.out]; rfl, hl, by have := hxl.out; omega, hg0, hg1, hbl4.out.mut M49.out hbB.out, by rw [hxl.out]; exact SlT.of_owns enc1_len hxl.out (by rw [flat1]; exact o9), E3.out.then M49.out (by intro k hk; simp at hk; omega)⟩
      · have hm0 : m = 0 := by omega
        subst hm0
        go_wp2_with fail
        refine (next_any B 16 _ hC.1 (by omega) (by omega)).mono ?_
        rintro e w9 ⟨r9, rfl, h90, h91, S9, M9⟩
        have o9 := M9.own hB4 hC.2.2.2
        have M49 := hid (hC.2.1.same M9)
        have hxl := hid hC.2.2.1
        have h94 : w4.heap.size ≤ (w9.alloc (.cells #[.int .i64 3] 2)).heap.size := by have := M49.out.size; simp; omega
        clear hC S9 M9
        by_cases hr0 : r9 = 0
        · subst hr0
          go_wp2_with (at_builtin; refine wpList_append_own_at (o := ⟨some _, _, _, _, _, _⟩) _ rfl _ _ 23 rfl w4.heap.size 2 i0 (.int .i64 0) 1 8 Try.underlying23 hi hz0 hz1 hz2 rfl (by omega) _ _ _ rfl (o9.alloc _) ⟨w9.heap.size, 0, none⟩ 1 1 [.int .i64 3] rfl rfl (cells_new1 _ _ _) (one_int1 _) (len_le (by omega) (by omega)) (by omega) h94 ?_; intro vA wA hoA hgA hnA hbA)
          have MA := hid (Mut.young (M49.out.alloc (.cells #[.int .i64 3] 2)) (fun k hk => (o9.lt k hk).1) hgA)
          obtain ⟨pA, cA, rfl⟩ := owns_forms hoA
          clear hgA hnA hbA
          go_wp2_with fail
          go_ret3
          have hLA : (xs ++ [3]).length = 0 + 1 := by rw [List.length_append, hxl.out]; rfl
          exact ⟨p, d, bl, g, pA, cA, xs ++ [3], by rw [hLA]; rfl, hl, by omega, hg0, hg1, hbl4.out.mut MA.out hbB.out, by rw [hLA]; exact SlT.of_owns enc1_len hLA (by rw [flat1, List.map_append]; exact hoA), E3.out.then MA.out (by intro k hk; simp at hk; omega)⟩
        · have hd : (r9 == 0) = false := by simpa using hr0
          go_wp2_with fail
          go_ret3
          exact ⟨p, d, bl, g, some ⟨w4.heap.size, 0, none⟩, 0, xs, by rw [hxl.out]; rfl, hl, by have := hxl.out; omega, hg0, hg1, hbl4.out.mut M49.out hbB.out, by rw [hxl.out]; exact SlT.of_owns enc1_len hxl.out (by rw [flat1]; exact o9), E3.out.then M49.out (by intro k hk; simp at hk; omega)⟩
  | some ad =>
    have hnw := ((SlT.of_owns enc1_len hN.out.symm o4).ext hX4.out).news
    go_wp2_with (at_builtin; refine wpList_append_own_at (o := ⟨some 26, _, _, _, _, _⟩) _ rfl _ _ 23 rfl w4.heap.size 2 i0 (.int .i64 0) 1 8 Try.underlying23 hi hz0 hz1 hz2 rfl (by omega) _ _ _ rfl ho0 ad N d4 (P.flatMap enc1) rfl (by rw [flatMap_len enc1_len, hN.out]) hnw (one_flat1 _) (len_le (by omega) (by omega)) (by omega) hX4.out.le ?_; intro v' w5 ho' hg' hn' hb')
    have hX5 := hX4.out.grown hg' (fun b hb => (ho0.lt b hb).1)
    rw [List.nil_append, flat1, Nat.zero_add] at ho'
    have hC : Src w5 B ∧ Mut w4 w5 [B] := ⟨S4.out.ext hX5, hX5.mut [B]⟩
    clear hg' hn' hb' hnw o4 ho0 hX5
    obtain ⟨pv, cv, rfl⟩ := owns_forms ho'
    go_wp2_with fail
    refine (next_any B 3 _ hC.1 (by omega) (by omega)).mono ?_
    rintro e w6 ⟨r1, rfl, h10, h11, S6, M6⟩
    have hC6 : Chg B w4.heap.size N cv pv w4 w6 P := ⟨S6, hC.2.same M6, hN.out.symm, M6.own hB4 ho'⟩
    clear hC ho' S6 M6
    obtain ⟨m1, rfl⟩ : ∃ m : Nat, r1 = m := ⟨r1.toNat, by omega⟩
    go_wp2_with fail
    go_loopw [10, 11] (fun k _ wr => ∃ (m : Nat) (xs : List Int), k = .int .i64 m ∧ m ≤ 2 ∧ Chg B w4.heap.size N cv pv w4 wr xs) (fun k _ _ => (intOf k).toNat)
    case atStart => exact ⟨m1, P, rfl, by omega, hC6⟩
    case round =>
      clear hC6 h10 h11
      obtain ⟨m, xs, rfl, hm2, hC⟩ := hrel
      by_cases hm : 0 < m
      · have hmI : (0 : Int) < m := by omega
        by_cases hN0 : 0 < N
        · have hNI : (0 : Int) < N := by omega
          go_wp2_with fail
          refine (next_len B N _ hC.1 (by omega) (by omega)).mono ?_
          rintro e w7 ⟨j, rfl, hj0, hj1, S7, M7⟩
          obtain ⟨k, rfl⟩ : ∃ k : Nat, j = k := ⟨j.toNat, by omega⟩
          have hkN : k < N := by omega
          have ho7 := M7.own hB4 hC.2.2.2
          have hM7 := hC.2.1.same M7
          have hxl := hC.2.2.1
          clear hC M7
          obtain ⟨gX, hpv⟩ : ∃ gX, pv = some ⟨gX, 0, none⟩ := by
            rcases Joins.ownsRow_forms ho7 with ⟨h1, h2⟩ | ⟨gX, c, h1⟩
            · simp at h1; omega
            · simp at h1; exact ⟨gX, h1.1⟩
          subst hpv
          obtain ⟨x, hx⟩ : ∃ x, xs[k]? = some x := ⟨xs[k]'(by omega), List.getElem?_eq_getElem _⟩
          have c7 : w7.cell? ⟨gX, k, none⟩ = some (.int .i64 x) := by rw [ho7.cellAt k (by omega), ints, List.getElem?_map, hx]; rfl
          have hgX := (ho7.lt gX rfl).1
          have hgX2 := (ho7.lt gX rfl).2
          replace hx := hid hx
          go_wp2_with fail
          have hkI : (k : Int) < N := by omega
          have hne : gX ∉ [B] := by simp; omega
          have c7d : w7.drew.cell? ⟨gX, k, none⟩ = some (.int .i64 x) := c7
          replace hne := hid hne
          replace S7 := hid S7
          go_region_with (go_at_call 78; refine (next_any B 4 _ (S7.out.ext (Ext.refl _).drew) (by omega) (by omega)).mono ?_; rintro e w8 ⟨r, rfl, h80, h81, S8, M8⟩; have c8 := (M8.cellk hne.out hgX2 k).trans c7d; have o8 := M8.own hB4 ho7.drew; have f8 := owns_free o8 k; replace o8 := hid o8; replace S8 := hid S8; replace M8 := hid (hM7.drew.same M8))
          all_goals
            clear c8 f8
            have hwm : IntKind.i64.wrap ((m : Int) - 1) = (m : Int) - 1 := IntWalk.i64_in _ (by omega)
            go_wp2_with fail
            go_roundw
            case rel => exact ⟨m - 1, xs.set k (wrap64 (wrap64 (x + r) - 1)), by rw [show ((m - 1 : Nat) : Int) = (m : Int) - 1 by omega], by omega, S8.out.mut ((Mut.refl _ [gX]).setCell (p := ⟨gX, k, none⟩) (by simp) _) (fun j hj => by simp at hj; omega), M8.out.setYoung hgX _, by rw [List.length_set]; exact hxl, chg_set o8.out k _⟩
            case measure => simp [intOf]; omega
        · have hN0' : N = 0 := by omega
          subst hN0'
          go_wp2_with fail
          refine (next_any B 16 _ hC.1 (by omega) (by omega)).mono ?_
          rintro e w9 ⟨r9, rfl, h90, h91, S9, M9⟩
          have o9 := M9.own hB4 hC.2.2.2
          have M49 := hid (hC.2.1.same M9)
          have hxl := hid hC.2.2.1
          have h94 : w4.heap.size ≤ (w9.alloc (.cells #[.int .i64 3] 2)).heap.size := by have := M49.out.size; simp; omega
          clear hC S9 M9
          by_cases hr0 : r9 = 0
          · subst hr0
            go_wp2_with (at_builtin; refine wpList_append_own_at (o := ⟨some _, _, _, _, _, _⟩) _ rfl _ _ 23 rfl w4.heap.size 2 i0 (.int .i64 0) 1 8 Try.underlying23 hi hz0 hz1 hz2 rfl (by omega) _ _ _ rfl (o9.alloc _) ⟨w9.heap.size, 0, none⟩ 1 1 [.int .i64 3] rfl rfl (cells_new1 _ _ _) (one_int1 _) (len_le (by omega) (by omega)) (by omega) h94 ?_; intro vA wA hoA hgA hnA hbA)
            have MA := hid (Mut.young (M49.out.alloc (.cells #[.int .i64 3] 2)) (fun k hk => (o9.lt k hk).1) hgA)
            obtain ⟨pA, cA, rfl⟩ := owns_forms hoA
            clear hgA hnA hbA
            go_wp2_with fail
            go_ret3
            have hLA : (xs ++ [3]).length = 0 + 1 := by rw [List.length_append, hxl.out]; rfl
            exact ⟨p, d, bl, g, pA, cA, xs ++ [3], by rw [hLA]; rfl, hl, by omega, hg0, hg1, hbl4.out.mut MA.out hbB.out, by rw [hLA]; exact SlT.of_owns enc1_len hLA (by rw [flat1, List.map_append]; exact hoA), E3.out.then MA.out (by intro k hk; simp at hk; omega)⟩
          · have hd : (r9 == 0) = false := by simpa using hr0
            go_wp2_with fail
            go_ret3
            exact ⟨p, d, bl, g, pv, cv, xs, by rw [hxl.out]; rfl, hl, by have := hxl.out; omega, hg0, hg1, hbl4.out.mut M49.out hbB.out, by rw [hxl.out]; exact SlT.of_owns enc1_len hxl.out (by rw [flat1]; exact o9), E3.out.then M49.out (by intro k hk; simp at hk; omega)⟩
      · have hm0 : m = 0 := by omega
        subst hm0
        go_wp2_with fail
        refine (next_any B 16 _ hC.1 (by omega) (by omega)).mono ?_
        rintro e w9 ⟨r9, rfl, h90, h91, S9, M9⟩
        have o9 := M9.own hB4 hC.2.2.2
        have M49 := hid (hC.2.1.same M9)
        have hxl := hid hC.2.2.1
        have h94 : w4.heap.size ≤ (w9.alloc (.cells #[.int .i64 3] 2)).heap.size := by have := M49.out.size; simp; omega
        clear hC S9 M9
        by_cases hr0 : r9 = 0
        · subst hr0
          go_wp2_with (at_builtin; refine wpList_append_own_at (o := ⟨some _, _, _, _, _, _⟩) _ rfl _ _ 23 rfl w4.heap.size 2 i0 (.int .i64 0) 1 8 Try.underlying23 hi hz0 hz1 hz2 rfl (by omega) _ _ _ rfl (o9.alloc _) ⟨w9.heap.size, 0, none⟩ 1 1 [.int .i64 3] rfl rfl (cells_new1 _ _ _) (one_int1 _) (len_le (by omega) (by omega)) (by omega) h94 ?_; intro vA wA hoA hgA hnA hbA)
          have MA := hid (Mut.young (M49.out.alloc (.cells #[.int .i64 3] 2)) (fun k hk => (o9.lt k hk).1) hgA)
          obtain ⟨pA, cA, rfl⟩ := owns_forms hoA
          clear hgA hnA hbA
          go_wp2_with fail
          go_ret3
          have hLA : (xs ++ [3]).length = N + 1 := by rw [List.length_append, hxl.out]; rfl
          exact ⟨p, d, bl, g, pA, cA, xs ++ [3], by rw [hLA]; rfl, hl, by omega, hg0, hg1, hbl4.out.mut MA.out hbB.out, by rw [hLA]; exact SlT.of_owns enc1_len hLA (by rw [flat1, List.map_append]; exact hoA), E3.out.then MA.out (by intro k hk; simp at hk; omega)⟩
        · have hd : (r9 == 0) = false := by simpa using hr0
          go_wp2_with fail
          go_ret3
          exact ⟨p, d, bl, g, pv, cv, xs, by rw [hxl.out]; rfl, hl, by have := hxl.out; omega, hg0, hg1, hbl4.out.mut M49.out hbB.out, by rw [hxl.out]; exact SlT.of_owns enc1_len hxl.out (by rw [flat1]; exact o9), E3.out.then M49.out (by intro k hk; simp at hk; omega)⟩
