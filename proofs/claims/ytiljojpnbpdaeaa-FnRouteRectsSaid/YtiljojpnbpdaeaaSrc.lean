/- The source of drawn numbers: what it holds, each draw lies in its range; where it comes from. Condition: at most 2^20 bytes of code. -/
import Derived.Test.YtiljojpnbpdaeaaWor
namespace Go.Proofs.Ytiljojpnbpdaeaa
open Go.RowKit

/-- One cell, a byte. -/
def encU (x : Int) : List Value := [.int .u8 x]
theorem SlT.byte {w : World} {p : Option Addr} {n : Nat} {l : List Int} (h : SlT encU 1 w p n l) {k : Nat} (hk : k < n) :
    ∃ b off x, p = some ⟨b, off, none⟩ ∧ b < w.heap.size ∧ Hid (l[k]? = some x) ∧ w.cell? ⟨b, off + k, none⟩ = some (.int .u8 x) := by
  obtain ⟨b, off, x, h1, h2, h3, h4⟩ := h.get hk
  exact ⟨b, off, x, h1, h2, h3, by have := h4 0 _ rfl; simpa using this⟩
/-- Block B holds a source: a code, a place in it, a seed. -/
def Src (w : World) (B : Nat) : Prop := ∃ (q : Option Addr) (n c at' : Nat) (seed : Int) (l : List Int),
  Blk w B [.slice q n c, .int .i64 at', .int .i64 seed] 125 ∧ SlT encU 1 w q n l ∧ (∀ x ∈ l, 0 ≤ x ∧ x ≤ 255) ∧ at' ≤ n ∧ n ≤ 1048576 ∧ 0 ≤ seed ∧ seed < 2147483647 ∧ (∀ a, q = some a → n = 0 ∨ a.block < B)
theorem Src.lt {w : World} {B : Nat} (h : Src w B) : B < w.heap.size := let ⟨_, _, _, _, _, _, h, _⟩ := h; h.lt
theorem Src.ext {w w' : World} {B : Nat} (h : Src w B) (hE : Ext w w') : Src w' B := by
  obtain ⟨q, n, c, a, s, l, h1, h2, h3⟩ := h
  exact ⟨q, n, c, a, s, l, h1.ext hE, h2.ext hE, h3⟩
theorem Src.mut {w w' : World} {B : Nat} {S : List Nat} (h : Src w B) (hM : Mut w w' S) (hS : ∀ k, k ∈ S → B < k) : Src w' B := by
  obtain ⟨q, n, c, a, s, l, h1, h2, h3, h4, h5, h6, h7, h8⟩ := h
  refine ⟨q, n, c, a, s, l, h1.mut hM (fun hh => by have := hS _ hh; omega), ?_, h3, h4, h5, h6, h7, h8⟩
  by_cases h0 : n = 0
  · exact ⟨h2.1, Or.inl h0⟩
  · refine h2.mut hM fun a ha hh => ?_
    have h9 := hS _ hh
    rcases h8 a ha with h10 | h10
    · exact h0 h10
    · omega
/-- What a draw below N leaves. -/
def Drawn (N : Int) (B : Nat) (w : World) (e : Ending) (w' : World) : Prop := ∃ r : Int, e = .returned (.int .i64 r) ∧ 0 ≤ r ∧ r < N ∧ Src w' B ∧ Mut w w' [B]
set_option maxRecDepth 100000 in
set_option maxHeartbeats 4000000 in
theorem next_any (B : Nat) (N : Int) (w : World) (hS : Src w B) (h1 : 2 ≤ N) (h2 : N ≤ 100000) :
    Calls Try.prog 78 #[.pointer (some ⟨B, 0, none⟩), .int .i64 N] w (Drawn N B w) := by
  obtain ⟨q, n, c, a, s, l, hb, hl, hu, ha, hn, hs0, hs1, hq⟩ := hS
  have g := hb.cells
  have fz := hb.free
  have g0 := g 0
  have g1 := g 1
  have g2 := g 2
  simp only [List.getElem?_cons_zero, List.getElem?_cons_succ] at g0 g1 g2
  have hnI : (n : Int) ≤ 1048576 := by omega
  have haI : (a : Int) ≤ n := by omega
  have hBl := hb.lt
  replace hb := hid hb
  replace hu := hid hu
  replace hq := hid hq
  clear g
  go_enter Try.func78, Try.ntmps78
  by_cases han : a < n
  · obtain ⟨bl, ol, x, rfl, hbl, hx, x0⟩ := hl.byte han
    obtain ⟨hx0, hx1⟩ := hu.out x (List.mem_of_getElem? hx.out)
    have haI2 : (a : Int) < n := by omega
    have hne : bl ≠ B := by
      rcases hq.out _ rfl with h0 | h0
      · omega
      · have : bl < B := h0; omega
    have hwx : IntKind.i64.wrap x = x := IntWalk.i64_in _ (by omega)
    go_wp2_with fail
    refine wp_region_later (by kernel_rfl) (by kernel_rfl) ?_
    repeat (go_big_quiet_step (fail))
    refine wpQuiet_nil ?_
    rintro w1 ⟨⟨_, E1⟩, rfl⟩
    have b1 := hid (hb.out.ext E1)
    have hBl1 := b1.out.lt
    have q0 := b1.out.cells 0
    have q1 := b1.out.cells 1
    have q2 := b1.out.cells 2
    have fz1 := b1.out.free
    simp only [List.getElem?_cons_zero, List.getElem?_cons_succ] at q0 q1 q2
    have y0 := (E1.cells bl (ol + a) hbl).trans x0
    have hbl1 : bl < w1.heap.size := by have := E1.le; omega
    clear g0 g1 g2 fz x0
    go_wp2_with fail
    refine wp_region_later (by kernel_rfl) (by kernel_rfl) ?_
    repeat (go_big_quiet_step (fail))
    refine wpQuiet_nil ?_
    rintro w2 ⟨⟨_, E2⟩, rfl⟩
    have E12 := E1.trans E2
    have b2 := hid (hb.out.ext E12)
    have q0' := b2.out.cells 0
    have q1' := b2.out.cells 1
    have q2' := b2.out.cells 2
    have fz2 := b2.out.free
    simp only [List.getElem?_cons_zero, List.getElem?_cons_succ] at q0' q1' q2'
    have hl2 := hid (hl.ext E12)
    have hwa : IntKind.i64.wrap ((a : Int) + 1) = (a : Int) + 1 := IntWalk.i64_in _ (by omega)
    clear q0 q1 q2 fz1 y0 b1 hbl1 hBl1
    have hM0 := hid (E12.mut [B])
    clear E1 E2
    by_cases hN : 256 < N
    · have hr0 := Int.emod_nonneg ((s * 48271 + x + 1) % 2147483647) (show N ≠ 0 by omega)
      have hr1 := Int.emod_lt_of_pos ((s * 48271 + x + 1) % 2147483647) (show 0 < N by omega)
      have hsd0 : 0 ≤ (s * 48271 + x + 1) % 2147483647 := by omega
      have hsd1 : (s * 48271 + x + 1) % 2147483647 < 2147483647 := by omega
      replace hr0 := hid hr0
      replace hr1 := hid hr1
      go_wp2_with fail
      go_ret
      refine ⟨_, rfl, hr0.out, hr1.out, ⟨_, n, c, a + 1, _, l, ?_, hl2.out.mutNe ((Mut.refl _ _).setCell (p := ⟨B, 1, none⟩) (by simp) _ |>.setCell (p := ⟨B, 2, none⟩) (by simp) _) hq.out, hu.out, by omega, hn, hsd0, hsd1, hq.out⟩, (hM0.out.setCell (p := ⟨B, 1, none⟩) (by simp) _).setCell (p := ⟨B, 2, none⟩) (by simp) _⟩
      have := (b2.out.set 1 (.int .i64 ((a : Int) + 1))).set 2 (.int .i64 ((s * 48271 + x + 1) % 2147483647))
      exact this
    · have hr0 := Int.emod_nonneg x (show N ≠ 0 by omega)
      have hr1 := Int.emod_lt_of_pos x (show 0 < N by omega)
      replace hr0 := hid hr0
      replace hr1 := hid hr1
      go_wp2_with fail
      go_ret
      refine ⟨_, rfl, hr0.out, hr1.out, ⟨_, n, c, a + 1, s, l, ?_, hl2.out.mutNe ((Mut.refl _ _).setCell (p := ⟨B, 1, none⟩) (by simp) _) hq.out, hu.out, by omega, hn, hs0, hs1, hq.out⟩, hM0.out.setCell (p := ⟨B, 1, none⟩) (by simp) _⟩
      exact b2.out.set 1 (.int .i64 ((a : Int) + 1))
  · have haI2 : ¬ (a : Int) < n := by omega
    have hsd0 : 0 ≤ (s * 48271 + 11) % 2147483647 := by omega
    have hsd1 : (s * 48271 + 11) % 2147483647 < 2147483647 := by omega
    have hr0 := Int.emod_nonneg ((s * 48271 + 11) % 2147483647 / 7) (show N ≠ 0 by omega)
    have hr1 := Int.emod_lt_of_pos ((s * 48271 + 11) % 2147483647 / 7) (show 0 < N by omega)
    replace hr0 := hid hr0
    replace hr1 := hid hr1
    have hdn : decide ((a : Int) < n) = false := by simpa using haI2
    go_wp2_with fail
    refine wp_region_later (by kernel_rfl) (by kernel_rfl) ?_
    repeat (go_big_quiet_step (fail))
    refine wpQuiet_nil ?_
    rintro w1 ⟨⟨_, E1⟩, rfl⟩
    have b1 := hid (hb.out.ext E1)
    have q0 := b1.out.cells 0
    have q1 := b1.out.cells 1
    have q2 := b1.out.cells 2
    have fz1 := b1.out.free
    simp only [List.getElem?_cons_zero, List.getElem?_cons_succ] at q0 q1 q2
    clear g0 g1 g2 fz
    go_wp2_with fail
    go_ret
    refine ⟨_, rfl, hr0.out, hr1.out, ⟨_, n, c, a, _, l, ?_, (hl.ext E1).mutNe ((Mut.refl _ _).setCell (p := ⟨B, 2, none⟩) (by simp) _) hq.out, hu.out, by omega, hn, hsd0, hsd1, hq.out⟩, (E1.mut [B]).setCell (p := ⟨B, 2, none⟩) (by simp) _⟩
    exact b1.out.set 2 (.int .i64 ((s * 48271 + 11) % 2147483647))
set_option maxRecDepth 100000 in
set_option maxHeartbeats 4000000 in
theorem from_any (q : Option Addr) (n c : Nat) (l : List Int) (w : World) (h : SlT encU 1 w q n l) (hu : ∀ x ∈ l, 0 ≤ x ∧ x ≤ 255) (hn : n ≤ 1048576) :
    Calls Try.prog 45 #[.slice q n c] w fun e w' => ∃ B, e = .returned (.pointer (some ⟨B, 0, none⟩)) ∧ w.heap.size ≤ B ∧ Src w' B ∧ Ext w w' := by
  have hu := hid hu
  have hnI : (n : Int) ≤ 1048576 := by omega
  have hq : Hid (∀ a, q = some a → n = 0 ∨ a.block < w.heap.size) := fun a ha => by
    rcases h.2 with h0 | ⟨b, off, hp, hb, -⟩
    · exact Or.inl h0
    · right; rw [hp] at ha; cases ha; exact hb
  go_enter Try.func45, Try.ntmps45
  go_wp2_with fail
  generalize hW : w.alloc _ = W0
  obtain ⟨E0, z0, b0⟩ := boxes1 hW
  clear hW
  have b1 := (show Blk W0 w.heap.size [_, _, _] _ from b0)
  clear b0
  obtain ⟨B, hB⟩ : ∃ B, B = w.heap.size := ⟨_, rfl⟩
  rw [← hB] at b1 hq ⊢
  replace hB := hid hB
  replace z0 := hid z0
  go_loopw [4] (fun i wr => ∃ (k : Nat) (s : Int), k ≤ n ∧ i = .int .i64 k ∧ Ext w wr ∧ Blk wr B [.slice q n c, .int .i64 0, .int .i64 s] 125 ∧ 0 ≤ s ∧ s < 2147483647) (fun i _ => n - (intOf i).toNat)
  case atStart => exact ⟨0, 12345, by omega, rfl, E0, b1, by omega, by omega⟩
  case round =>
    clear b1
    obtain ⟨k, s, hk, rfl, hX, hb, hs0, hs1⟩ := hrel
    by_cases hkn : k < n
    · by_cases hk64 : (k : Int) < 64
      · obtain ⟨bl, ol, x, rfl, hbl, hx, x0⟩ := h.byte hkn
        obtain ⟨hx0, hx1⟩ := hu.out x (List.mem_of_getElem? hx.out)
        have hkI : (k : Int) < n := by omega
        have g0 := hb.cells 0
        have g2 := hb.cells 2
        have fz := hb.free
        simp only [List.getElem?_cons_zero, List.getElem?_cons_succ] at g0 g2
        have y0 := (hX.cells bl (ol + k) hbl).trans x0
        have hbl1 : bl < wr.heap.size := by have := hX.le; omega
        have hBl := hb.lt
        have hsd0 : 0 ≤ (s * 31 + x) % 2147483647 := by omega
        have hsd1 : (s * 31 + x) % 2147483647 < 2147483647 := by omega
        have hwB : w.heap.size ≤ B := by rw [hB.out]; exact Nat.le_refl _
        replace hb := hid hb
        replace hwB := hid hwB
        clear x0
        go_wp2_with fail
        refine wp_region_still_tail 15 (by kernel_rfl) (by kernel_rfl) ?_
        simp only [List.take_succ_cons, List.take_zero, List.drop_succ_cons, List.drop_zero]
        iterate 15 still_step
        refine wpStill_nil ?_
        change wpList _ _ _ _ _ wr.drew
        go_wp2_with fail
        go_roundw
        case rel => exact ⟨k + 1, (s * 31 + x) % 2147483647, by omega, by go_num, (hX.setCell (p := ⟨B, 2, none⟩) hwB.out _).drew, (hb.out.set 2 _).drew, hsd0, hsd1⟩
        case measure => simp [intOf]; omega
      · have hkI : (k : Int) < n := by omega
        have hd1 : decide ((k : Int) < 64) = false := by simpa using hk64
        go_wp2_with fail
        go_ret
        exact ⟨B, rfl, by rw [hB.out]; exact Nat.le_refl _, ⟨q, n, c, 0, s, l, hb, h.ext hX, hu.out, by omega, hn, hs0, hs1, hq.out⟩, hX⟩
    · have hd1 : ¬ (k : Int) < n := by omega
      go_wp2_with fail
      go_ret
      exact ⟨B, rfl, by rw [hB.out]; exact Nat.le_refl _, ⟨q, n, c, 0, s, l, hb, h.ext hX, hu.out, by omega, hn, hs0, hs1, hq.out⟩, hX⟩
end Go.Proofs.Ytiljojpnbpdaeaa
