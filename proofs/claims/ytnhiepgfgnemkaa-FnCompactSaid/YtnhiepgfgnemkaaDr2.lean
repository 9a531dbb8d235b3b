/- Where a source comes from; drawn blocks, lists of blocks and gaps. Condition: at most 2^20 bytes of code. -/
import Derived.Test.YtnhiepgfgnemkaaDrw
namespace Go.Proofs.Ytnhiepgfgnemkaa
open Go.RowKit

set_option maxRecDepth 100000 in
set_option maxHeartbeats 4000000 in
theorem from_any (q : Option Addr) (n c : Nat) (l : List Int) (w : World) (h : SlT encU 1 w q n l) (hu : ∀ x ∈ l, 0 ≤ x ∧ x ≤ 255) (hn : n ≤ 1048576) :
    Calls Try.prog 75 #[.slice q n c] w fun e w' => ∃ B, e = .returned (.pointer (some ⟨B, 0, none⟩)) ∧ w.heap.size ≤ B ∧ Src w' B ∧ Ext w w' := by
  have hu := hid hu
  have hnI : (n : Int) ≤ 1048576 := by omega
  have hq : Hid (∀ a, q = some a → n = 0 ∨ a.block < w.heap.size) := fun a ha => by
    rcases h.2 with h0 | ⟨b, off, hp, hb, -⟩
    · exact Or.inl h0
    · right; rw [hp] at ha; cases ha; exact hb
  go_enter Try.func75, Try.ntmps75
  go_wp2_with fail
  generalize hW : w.alloc _ = W0
  obtain ⟨E0, z0, b0⟩ := boxes1 hW
  clear hW
  have b1 := (show Blk W0 w.heap.size [_, _, _] _ from b0)
  clear b0
  obtain ⟨B, hB⟩ : ∃ B, B = w.heap.size := ⟨_, rfl⟩
  rw [← hB] at b1 hq ⊢
  replace hB := hid hB
  replace z0 := hid z0
  go_loopw [4] (fun i wr => ∃ (k : Nat) (s : Int), k ≤ n ∧ i = .int .i64 k ∧ Ext w wr ∧ Blk wr B [.slice q n c, .int .i64 0, .int .i64 s] 116 ∧ 0 ≤ s ∧ s < 2147483647) (fun i _ => n - (intOf i).toNat)
  case atStart => exact ⟨0, 12345, by omega, rfl, E0, b1, by omega, by omega⟩
  case round =>
    clear b1
    obtain ⟨k, s, hk, rfl, hX, hb, hs0, hs1⟩ := hrel
    by_cases hkn : k < n
    · by_cases hk64 : (k : Int) < 64
      · obtain ⟨bl, ol, x, rfl, hbl, hx, x0⟩ := h.byte hkn
        obtain ⟨hx0, hx1⟩ := hu.out x (List.mem_of_getElem? hx.out)
        have hkI : (k : Int) < n := by omega
        have g0 := hb.cells 0
        have g2 := hb.cells 2
        have fz := hb.free
        simp only [List.getElem?_cons_zero, List.getElem?_cons_succ] at g0 g2
        have y0 := (hX.cells bl (ol + k) hbl).trans x0
        have hbl1 : bl < wr.heap.size := by have := hX.le; omega
        have hBl := hb.lt
        have hsd0 : 0 ≤ (s * 31 + x) % 2147483647 := by omega
        have hsd1 : (s * 31 + x) % 2147483647 < 2147483647 := by omega
        have hwB : w.heap.size ≤ B := by rw [hB.out]; exact Nat.le_refl _
        replace hb := hid hb
        replace hwB := hid hwB
        clear x0
        go_wp2_with fail
        refine wp_region_still_tail 15 (by kernel_rfl) (by kernel_rfl) ?_
        simp only [List.take_succ_cons, List.take_zero, List.drop_succ_cons, List.drop_zero]
        iterate 15 still_step
        refine wpStill_nil ?_
        change wpList _ _ _ _ _ wr.drew
        go_wp2_with fail
        go_roundw
        case rel => exact ⟨k + 1, (s * 31 + x) % 2147483647, by omega, by go_num, (hX.setCell (p := ⟨B, 2, none⟩) hwB.out _).drew, (hb.out.set 2 _).drew, hsd0, hsd1⟩
        case measure => simp [intOf]; omega
      · have hkI : (k : Int) < n := by omega
        have hd1 : decide ((k : Int) < 64) = false := by simpa using hk64
        go_wp2_with fail
        go_ret
        exact ⟨B, rfl, by rw [hB.out]; exact Nat.le_refl _, ⟨q, n, c, 0, s, l, hb, h.ext hX, hu.out, by omega, hn, hs0, hs1, hq.out⟩, hX⟩
    · have hd1 : ¬ (k : Int) < n := by omega
      go_wp2_with fail
      go_ret
      exact ⟨B, rfl, by rw [hB.out]; exact Nat.le_refl _, ⟨q, n, c, 0, s, l, hb, h.ext hX, hu.out, by omega, hn, hs0, hs1, hq.out⟩, hX⟩
/-- What drawn blocks are like. -/
def Smal (b : Q4) : Prop := (-1 ≤ b.a ∧ b.a ≤ 401) ∧ (-1 ≤ b.b ∧ b.b ≤ 401) ∧ (-1 ≤ b.c ∧ b.c ≤ 401) ∧ (-1 ≤ b.d ∧ b.d ≤ 401)
set_option maxRecDepth 100000 in
set_option maxHeartbeats 4000000 in
theorem drawBlock_any (B : Nat) (w : World) (hS : Src w B) :
    Calls Try.prog 109 #[.pointer (some ⟨B, 0, none⟩)] w fun e w' => ∃ b : Q4, e = .returned (.agg #[.int .i64 b.a, .int .i64 b.b, .int .i64 b.c, .int .i64 b.d]) ∧ Smal b ∧ Src w' B ∧ Mut w w' [B] := by
  have hBl := hS.lt
  go_enter Try.func109, Try.ntmps109
  go_wp2_with fail
  generalize hW : w.alloc _ = W0
  obtain ⟨E0, z0, b0⟩ := boxes1 hW
  clear hW
  have b1 := hid (show Blk W0 w.heap.size [_, _, _, _] _ from b0)
  clear b0
  have hne : Hid (w.heap.size ∉ [B]) := by show ¬ _; simp; omega
  replace z0 := hid z0
  refine (next_any B 30 _ (hS.ext E0) (by omega) (by omega)).mono ?_
  rintro e w1 ⟨r1, rfl, h10, h11, S1, M1⟩
  go_wp2_with fail
  refine (next_any B 20 _ S1 (by omega) (by omega)).mono ?_
  rintro e w2 ⟨r2, rfl, h20, h21, S2, M2⟩
  go_wp2_with fail
  refine (next_any B 8 _ S2 (by omega) (by omega)).mono ?_
  rintro e w3 ⟨r3, rfl, h30, h31, S3, M3⟩
  go_wp2_with fail
  refine (next_any B 8 _ S3 (by omega) (by omega)).mono ?_
  rintro e w4 ⟨r4, rfl, h40, h41, S4, M4⟩
  have M04 := hid (M1.same (M2.same (M3.same M4)))
  have b4 := b1.out.mut M04.out hne.out
  have g := b4.cells
  have fz := b4.free
  have g0 := g 0
  have g1 := g 1
  have g2 := g 2
  have g3 := g 3
  simp only [List.getElem?_cons_zero, List.getElem?_cons_succ] at g0 g1 g2 g3
  have hl4 := b4.lt
  replace b4 := hid b4
  clear g S1 S2 S3 M1 M2 M3 M4
  replace S4 := hid S4
  go_wp2_with fail
  have b5 := hid ((((b4.out.set 0 (.int .i64 r1)).set 1 (.int .i64 r2)).set 2 (.int .i64 (1 + r3))).set 3 (.int .i64 (1 + r4)))
  have M5 := hid (((((Mut.refl w4 [w.heap.size]).setCell (p := ⟨w.heap.size, 0, none⟩) (by simp) (.int .i64 r1)).setCell (p := ⟨w.heap.size, 1, none⟩) (by simp) (.int .i64 r2)).setCell (p := ⟨w.heap.size, 2, none⟩) (by simp) (.int .i64 (1 + r3))).setCell (p := ⟨w.heap.size, 3, none⟩) (by simp) (.int .i64 (1 + r4)))
  generalize hWf : World.setCell _ _ _ = wf at b5 M5 ⊢
  clear hWf g0 g1 g2 g3 fz
  have g := b5.out.cells
  have k0 := g 0
  have k1 := g 1
  have k2 := g 2
  have k3 := g 3
  simp only [List.set_cons_zero, List.set_cons_succ, List.getElem?_cons_zero, List.getElem?_cons_succ] at k0 k1 k2 k3
  clear g
  refine bodyPost_ret (v := .agg #[.int .i64 r1, .int .i64 r2, .int .i64 (1 + r3), .int .i64 (1 + r4)]) (by simp [results, Try.results109, go_sem, k0, k1, k2, k3]) rfl ⟨⟨r1, r2, 1 + r3, 1 + r4⟩, rfl, ⟨⟨by show -1 ≤ r1; omega, by show r1 ≤ 401; omega⟩, ⟨by show -1 ≤ r2; omega, by show r2 ≤ 401; omega⟩, ⟨by show -1 ≤ 1 + r3; omega, by show 1 + r3 ≤ 401; omega⟩, ⟨by show -1 ≤ 1 + r4; omega, by show 1 + r4 ≤ 401; omega⟩⟩, ?_, ?_⟩
  · exact S4.out.mut M5.out (fun k hk => by simp at hk; omega)
  · have h1 := (E0.mut [B]).same M04.out
    refine ⟨M5.out.os.trans h1.os, M5.out.tape.trans h1.tape, M5.out.output.trans h1.output, Nat.le_trans h1.size M5.out.size, fun k hk hn => ?_⟩
    have h2 := M04.out.size
    have h3 := E0.le
    exact (M5.out.block k (by omega) (by simp; omega)).trans (h1.block k hk hn)
/-- What a drawn list leaves. -/
def DrawnL (B base : Nat) (w : World) (e : Ending) (w' : World) : Prop := ∃ (p : Option Addr) (d : Nat) (l : List Q4), e = .returned (.slice p l.length d) ∧ l.length ≤ 14 ∧ (∀ b ∈ l, Smal b) ∧ w'.ownsRow base 49 4 (.slice p l.length d) l.length (l.flatMap enc4) ∧ Src w' B ∧ Mut w w' [B]
theorem one_int4 (a b c d : Int) : ∀ u ∈ [Value.int .i64 a, .int .i64 b, .int .i64 c, .int .i64 d], u.oneCell' = true := fun u hu => by simp at hu; rcases hu with rfl | rfl | rfl | rfl <;> rfl
theorem Mut.young {w0 w w' : World} {B : Nat} {v : Value} (hM : Mut w0 w [B]) (hv : ∀ k, v.ownBlock = some k → w0.heap.size ≤ k) (hg : w.grownBy w' v.ownBlock) : Mut w0 w' [B] := hM.append (fun k hk => Or.inr (hv k hk)) hg
set_option maxRecDepth 100000 in
set_option maxHeartbeats 4000000 in
theorem drawGap_any (B : Nat) (w : World) (hS : Src w B) :
    Calls Try.prog 77 #[.pointer (some ⟨B, 0, none⟩)] w fun e w' => ∃ g : Int, e = .returned (.int .i64 g) ∧ -1 ≤ g ∧ g ≤ 9 ∧ Src w' B ∧ Mut w w' [B] := by
  have hBl := hS.lt
  go_enter Try.func77, Try.ntmps77
  go_wp2_with fail
  refine (next_any B 16 _ hS (by omega) (by omega)).mono ?_
  rintro e w1 ⟨r1, rfl, h10, h11, S1, M1⟩
  by_cases hr : r1 = 0
  · subst hr
    go_wp2_with fail
    generalize hW : w1.alloc _ = W0
    obtain ⟨E0, z0, b0⟩ := boxes1 hW
    clear hW
    have b1 := hid (show Blk W0 w1.heap.size [_, _, _] _ from b0)
    clear b0
    have hBl1 := S1.lt
    have hne : Hid (w1.heap.size ∉ [B]) := by show ¬ _; simp; omega
    replace z0 := hid z0
    refine (next_any B 3 _ (S1.ext E0) (by omega) (by omega)).mono ?_
    rintro e w2 ⟨r2, rfl, h20, h21, S2, M2⟩
    have b2 := b1.out.mut M2 hne.out
    have g := b2.cells
    have g0 := g 0
    have g1 := g 1
    have g2 := g 2
    simp only [List.getElem?_cons_zero, List.getElem?_cons_succ] at g0 g1 g2
    have hM := hid ((M1.ext E0).same M2)
    clear g b2 M1 M2 S1
    replace S2 := hid S2
    rcases (show r2 = 0 ∨ r2 = 1 ∨ r2 = 2 by omega) with rfl | rfl | rfl
    · go_wp2_with fail
      go_ret
      exact ⟨-1, rfl, by omega, by omega, S2.out, hM.out⟩
    · go_wp2_with fail
      go_ret
      exact ⟨8, rfl, by omega, by omega, S2.out, hM.out⟩
    · go_wp2_with fail
      go_ret
      exact ⟨9, rfl, by omega, by omega, S2.out, hM.out⟩
  · have hd : (r1 == 0) = false := by simpa using hr
    go_wp2_with fail
    refine (next_any B 4 _ S1 (by omega) (by omega)).mono ?_
    rintro e w2 ⟨r2, rfl, h20, h21, S2, M2⟩
    go_wp2_with fail
    go_ret
    exact ⟨r2, rfl, by omega, by omega, S2, M1.same M2⟩
end Go.Proofs.Ytnhiepgfgnemkaa
