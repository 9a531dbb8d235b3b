/- Contracts of the draws of patterns (reference). Condition: at most 2^20 bytes of code. -/
import Derived.Test.YtaigndaabmelhaaDrf
import Derived.Test.YtaigndaabmelhaaOpv
import Derived.Test.YtaigndaabmelhaaMsk
import Derived.Test.YtaigndaabmelhaaSpd
namespace Go.Proofs.Ytaigndaabmelhaa
open Go.RowKit

theorem DrwL.of_bits {B : Nat} {w w1 w2 : World} {q : Option Addr} {c : Nat} {l : List Q4} (hl : l.length ≤ 3200) (o : w2.ownsRow w1.heap.size 50 4 (.slice q l.length c) l.length (l.flatMap enc4)) (hw : w.heap.size ≤ w1.heap.size) (S : Src w2 B) (M : Mut w w2 [B]) :
    DrwL B w (.returned (.slice q l.length c)) w2 :=
  ⟨q, l.length, c, l, rfl, SlT.of_owns enc4_len rfl o, by omega, fun a ha => by have := (owns_ge o a.block (mem_blkOf.2 ⟨a, ha, rfl⟩)).1; omega, S, M⟩
set_option maxRecDepth 100000 in
set_option maxHeartbeats 8000000 in
theorem drawTriangle_any (B : Nat) (w : World) (hS : Src w B) :
    Calls Try.prog 69 #[.pointer (some ⟨B, 0, none⟩)] w (DrwL B w) := by
  go_enter Try.func69, Try.ntmps69
  go_wp2_with fail
  refine (next_any B 10 _ hS (by omega) (by omega)).mono ?_
  rintro e w1 ⟨x, rfl, x0, x1, S1, M1⟩
  go_wp2_with fail
  refine (next_any B 10 _ S1 (by omega) (by omega)).mono ?_
  rintro e w2 ⟨y, rfl, y0, y1, S2, M2⟩
  replace M2 := hid (M1.same M2)
  clear M1 S1
  go_wp2_with fail
  refine (next_any B 8 _ S2 (by omega) (by omega)).mono ?_
  rintro e w3 ⟨v, rfl, v0, v1, S3, M3⟩
  replace M3 := hid (M2.out.same M3)
  clear M2 S2
  go_wp2_with fail
  refine (next_any B _ _ S3 (by omega) (by omega)).mono ?_
  rintro e w4 ⟨m, rfl, m0, m1, S4, M4⟩
  replace M4 := hid (M3.out.same M4)
  clear M3 S3
  go_wp2_with fail
  obtain ⟨X, hX⟩ : ∃ X, X = x - 10 := ⟨_, rfl⟩
  obtain ⟨Y, hY⟩ : ∃ Y, Y = y - 10 := ⟨_, rfl⟩
  rw [← hX, ← hY]
  generalize hW : w4.alloc _ = W0
  obtain ⟨E0, z0, bT⟩ := boxes1 hW
  clear hW
  obtain ⟨L, hL⟩ : ∃ L : List Q4, L = [⟨X, Y, X + (7 + v), Y + 1⟩, ⟨X, Y + 2, X + 1, Y + 6⟩, ⟨X + (7 + v) - 1, Y + 2, X + (7 + v), Y + 6⟩, ⟨X, Y + 5, X + (2 + m), Y + 6⟩, ⟨X + (2 + m) + 1, Y + 5, X + (7 + v), Y + 6⟩] := ⟨_, rfl⟩
  have hLv : ∀ r ∈ L, vR r = true := by
    intro r hr
    rw [hL] at hr
    simp only [List.mem_cons, List.not_mem_nil, or_false] at hr
    rw [vR_iff]
    rcases hr with rfl | rfl | rfl | rfl | rfl <;> simp only <;> omega
  have hLs : SlT enc4 4 W0 (some ⟨w4.heap.size, 0, none⟩) 5 L := by
    rw [hL]
    exact SlT.of_owns (l := [_, _, _, _, _]) enc4_len rfl (owns_blk (base := 0) (n := 5) (size := 4) (cs := List.flatMap enc4 [⟨X, Y, X + (7 + v), Y + 1⟩, ⟨X, Y + 2, X + 1, Y + 6⟩, ⟨X + (7 + v) - 1, Y + 2, X + (7 + v), Y + 6⟩, ⟨X, Y + 5, X + (2 + m), Y + 6⟩, ⟨X + (2 + m) + 1, Y + 5, X + (7 + v), Y + 6⟩]) bT (Nat.zero_le _) rfl (by simp [maxLen]))
  have S5 := S4.ext E0
  replace M4 := hid (M4.out.same (E0.mut _))
  have hwl := M4.out.size
  replace hL := hid hL
  clear bT E0 S4
  refine (l03Bits_any _ 5 5 L _ hLs (by omega) hLv).mono ?_
  rintro e w5 ⟨B5, rfl, o5, E5⟩
  have S6 := S5.ext E5
  replace M4 := hid (M4.out.same (E5.mut _))
  have b5 := Bits.of o5
  clear o5 S5 hLs
  go_wp2_with fail
  refine (l03Canon_any B5 6400 (gL L) _ b5).mono ?_
  rintro e w6 ⟨q6, c6, rfl, o6, E6⟩
  have S7 := S6.ext E6
  replace M4 := hid (M4.out.same (E6.mut _))
  have hwl2 := E5.le
  replace o6 := hid o6
  clear S6 b5
  go_wp2_with fail
  go_ret
  exact DrwL.of_bits (canon_len _) o6.out (by omega) S7 M4.out
def DrwN (B : Nat) (w : World) (e : Ending) (w' : World) : Prop := ∃ s : Int, e = .returned (.int .i64 s) ∧ Src w' B ∧ Mut w w' [B]
set_option maxRecDepth 100000 in
set_option maxHeartbeats 8000000 in
theorem drawSpacing_any (B : Nat) (w : World) (hS : Src w B) :
    Calls Try.prog 113 #[.pointer (some ⟨B, 0, none⟩)] w (DrwN B w) := by
  go_enter Try.func113, Try.ntmps113
  go_wp2_with fail
  refine (next_any B 16 _ hS (by omega) (by omega)).mono ?_
  rintro e w1 ⟨x, rfl, x0, x1, S1, M1⟩
  by_cases hx : x = 0
  · subst hx
    go_wp2_with fail
    generalize hW : w1.alloc _ = W0
    obtain ⟨E0, z0, bT⟩ := boxes1 hW
    clear hW
    have hT : Hid (Blk W0 w1.heap.size [.int .i64 0, .int .i64 8, .int .i64 9] 2) := bT
    have hBl := S1.lt
    have S2 := S1.ext E0
    replace M1 := hid (M1.same (E0.mut _))
    clear bT S1 E0
    refine (next_any B 3 _ S2 (by omega) (by omega)).mono ?_
    rintro e w3 ⟨j, rfl, j0, j1, S3, M3⟩
    have hT := hid (hT.out.mut M3 (by simp; omega))
    replace M1 := hid (M1.out.same M3)
    clear S2 M3
    obtain ⟨k, rfl⟩ : ∃ k : Nat, j = k := ⟨j.toNat, by omega⟩
    have hk : k < 3 := by omega
    obtain ⟨s, hs⟩ : ∃ s : Int, ([.int .i64 0, .int .i64 8, .int .i64 9] : List Value)[k]? = some (.int .i64 s) := by
      match k, hk with
      | 0, _ => exact ⟨_, rfl⟩
      | 1, _ => exact ⟨_, rfl⟩
      | 2, _ => exact ⟨_, rfl⟩
    have z := hT.out.cells k
    rw [hs] at z
    have hTl := hT.out.lt
    clear hs
    go_wp2_with fail
    go_ret
    exact ⟨s, rfl, S3, M1.out⟩
  · have hxb : (x == 0) = false := by simpa using hx
    have hxd : decide (x = 0) = false := decide_eq_false hx
    go_wp2_with fail
    refine (next_any B 4 _ S1 (by omega) (by omega)).mono ?_
    rintro e w3 ⟨j, rfl, j0, j1, S3, M3⟩
    replace M1 := hid (M1.same M3)
    go_wp2_with fail
    go_ret
    exact ⟨_, rfl, S3, M1.out⟩
/-- What a draw of rectangles and a number leaves. -/
def DrwP (B : Nat) (w : World) (e : Ending) (w' : World) : Prop := ∃ (q : Option Addr) (n c : Nat) (l : List Q4) (s : Int), e = .returned (.tuple #[.slice q n c, .int .i64 s]) ∧ SlT enc4 4 w' q n l ∧ n ≤ 3201 ∧ Src w' B ∧ Mut w w' [B]
set_option maxRecDepth 100000 in
set_option maxHeartbeats 8000000 in
theorem drawPattern_any (B : Nat) (w : World) (hS : Src w B) :
    Calls Try.prog 63 #[.pointer (some ⟨B, 0, none⟩)] w (DrwP B w) := by
  go_enter Try.func63, Try.ntmps63
  go_wp2_with fail
  refine (next_any B 4 _ hS (by omega) (by omega)).mono ?_
  rintro e w1 ⟨x, rfl, x0, x1, S1, M1⟩
  by_cases hx : x = 0
  · subst hx
    go_wp2_with fail
    refine (drawTriangle_any B _ S1).mono ?_
    rintro e w2 ⟨q2, n2, c2, l2, rfl, s2, hn2, hq2, S2, M2⟩
    have hBq : Hid (∀ a, q2 = some a → B < a.block) := fun a ha => Nat.lt_of_lt_of_le S1.lt (hq2 a ha)
    replace M1 := hid (M1.same M2)
    replace s2 := hid s2
    clear hq2 M2
    go_wp2_with fail
    refine (next_any B 2 _ S2 (by omega) (by omega)).mono ?_
    rintro e w3 ⟨j, rfl, j0, j1, S3, M3⟩
    replace s2 := hid (s2.out.mut M3 (fun a ha hh => by simp at hh; have := hBq.out a ha; omega))
    replace M1 := hid (M1.out.same M3)
    go_wp2_with fail
    go_ret2
    exact ⟨q2, n2, c2, l2, _, rfl, s2.out, hn2, S3, M1.out⟩
  · have hxb : (x == 0) = false := by simpa using hx
    have hxd : decide (x = 0) = false := decide_eq_false hx
    go_wp2_with fail
    refine (drawRegion_any B _ S1).mono ?_
    rintro e w2 ⟨q2, n2, c2, l2, rfl, s2, hn2, hq2, S2, M2⟩
    have hBq : Hid (∀ a, q2 = some a → B < a.block) := fun a ha => Nat.lt_of_lt_of_le S1.lt (hq2 a ha)
    replace M1 := hid (M1.same M2)
    replace s2 := hid s2
    clear hq2 M2
    go_wp2_with fail
    refine (drawSpacing_any B _ S2).mono ?_
    rintro e w3 ⟨j, rfl, S3, M3⟩
    replace s2 := hid (s2.out.mut M3 (fun a ha hh => by simp at hh; have := hBq.out a ha; omega))
    replace M1 := hid (M1.out.same M3)
    go_wp2_with fail
    go_ret2
    exact ⟨q2, n2, c2, l2, _, rfl, s2.out, hn2, S3, M1.out⟩
/-- What a whole draw leaves. -/
def DrwQ (w : World) (e : Ending) (w' : World) : Prop := ∃ (q : Option Addr) (n c : Nat) (l : List Q4) (s : Int), e = .returned (.tuple #[.slice q n c, .int .i64 s]) ∧ SlT enc4 4 w' q n l ∧ n ≤ 3201 ∧ Ext w w'
set_option maxRecDepth 100000 in
set_option maxHeartbeats 8000000 in
theorem drawOddCycle_any (q : Option Addr) (n c : Nat) (l : List Int) (w : World) (h : SlT encU 1 w q n l) (hu : ∀ x ∈ l, 0 ≤ x ∧ x ≤ 255) (hn : n ≤ 1048576) :
    Calls Try.prog 25 #[.slice q n c] w (DrwQ w) := by
  have hu := hid hu
  go_enter Try.func25, Try.ntmps25
  go_wp2_with fail
  refine (from_any q n c l _ h hu.out hn).mono ?_
  rintro e w1 ⟨B, rfl, hB, S, E⟩
  go_wp2_with fail
  refine (drawPattern_any B _ S).mono ?_
  rintro e w2 ⟨q2, n2, c2, l2, s, rfl, s2, hn2, S2, M2⟩
  have E := hid (E.then M2 (by simp; omega))
  replace s2 := hid s2
  clear M2 S
  go_wp2_with fail
  go_ret2
  exact ⟨q2, n2, c2, l2, s, rfl, s2.out, hn2, E.out⟩
set_option maxRecDepth 100000 in
set_option maxHeartbeats 8000000 in
theorem drawColorParts_any (q : Option Addr) (n c : Nat) (l : List Int) (w : World) (h : SlT encU 1 w q n l) (hu : ∀ x ∈ l, 0 ≤ x ∧ x ≤ 255) (hn : n ≤ 1048576) :
    Calls Try.prog 29 #[.slice q n c] w (DrwQ w) := by
  have hu := hid hu
  go_enter Try.func29, Try.ntmps29
  go_wp2_with fail
  refine (from_any q n c l _ h hu.out hn).mono ?_
  rintro e w1 ⟨B, rfl, hB, S, E⟩
  go_wp2_with fail
  refine (drawPattern_any B _ S).mono ?_
  rintro e w2 ⟨q2, n2, c2, l2, s, rfl, s2, hn2, S2, M2⟩
  have E := hid (E.then M2 (by simp; omega))
  replace s2 := hid s2
  clear M2 S
  go_wp2_with fail
  go_ret2
  exact ⟨q2, n2, c2, l2, s, rfl, s2.out, hn2, E.out⟩
set_option maxRecDepth 100000 in
set_option maxHeartbeats 8000000 in
theorem drawSplitMasks_any (q : Option Addr) (n c : Nat) (l : List Int) (w : World) (h : SlT encU 1 w q n l) (hu : ∀ x ∈ l, 0 ≤ x ∧ x ≤ 255) (hn : n ≤ 1048576) :
    Calls Try.prog 34 #[.slice q n c] w (DrwQ w) := by
  have hu := hid hu
  go_enter Try.func34, Try.ntmps34
  go_wp2_with fail
  refine (from_any q n c l _ h hu.out hn).mono ?_
  rintro e w1 ⟨B, rfl, hB, S, E⟩
  go_wp2_with fail
  refine (drawPattern_any B _ S).mono ?_
  rintro e w2 ⟨q2, n2, c2, l2, s, rfl, s2, hn2, S2, M2⟩
  have E := hid (E.then M2 (by simp; omega))
  replace s2 := hid s2
  clear M2 S
  go_wp2_with fail
  go_ret2
  exact ⟨q2, n2, c2, l2, s, rfl, s2.out, hn2, E.out⟩
set_option maxRecDepth 100000 in
set_option maxHeartbeats 8000000 in
theorem drawFirstStitch_any (q : Option Addr) (n c : Nat) (l : List Int) (w : World) (h : SlT encU 1 w q n l) (hu : ∀ x ∈ l, 0 ≤ x ∧ x ≤ 255) (hn : n ≤ 1048576) :
    Calls Try.prog 31 #[.slice q n c] w (DrwQ w) := by
  have hu := hid hu
  go_enter Try.func31, Try.ntmps31
  go_wp2_with fail
  refine (from_any q n c l _ h hu.out hn).mono ?_
  rintro e w1 ⟨B, rfl, hB, S, E⟩
  go_wp2_with fail
  refine (next_any B 2 _ S (by omega) (by omega)).mono ?_
  rintro e w2 ⟨x, rfl, x0, x1, S2, M2⟩
  have E := hid (E.then M2 (by simp; omega))
  clear M2 S
  by_cases hx : x = 0
  · subst hx
    go_wp2_with fail
    refine (drawTriangle_any B _ S2).mono ?_
    rintro e w3 ⟨q2, n2, c2, l2, rfl, s2, hn2, hq2, S3, M3⟩
    have E := hid (E.out.then M3 (by simp; omega))
    replace s2 := hid s2
    clear M3 hq2
    go_wp2_with fail
    go_ret2
    exact ⟨q2, n2, c2, l2, _, rfl, s2.out, hn2, E.out⟩
  · have hxb : (x == 0) = false := by simpa using hx
    have hxd : decide (x = 0) = false := decide_eq_false hx
    go_wp2_with fail
    refine (drawPattern_any B _ S2).mono ?_
    rintro e w3 ⟨q2, n2, c2, l2, s, rfl, s2, hn2, S3, M3⟩
    have E := hid (E.out.then M3 (by simp; omega))
    replace s2 := hid s2
    clear M3
    go_wp2_with fail
    go_ret2
    exact ⟨q2, n2, c2, l2, s, rfl, s2.out, hn2, E.out⟩
end Go.Proofs.Ytaigndaabmelhaa
