/- Lemmas on sources and rows beside them. No condition. -/
import Derived.Test.YtaigndaabmelhaaSrc
import Derived.Test.YtaigndaabmelhaaRg4
import Derived.Test.YtaigndaabmelhaaSp4
import Derived.Deep.RegionHeld3
namespace Go.Proofs.Ytaigndaabmelhaa
open Go.RowKit

theorem Src.young {w : World} {B P : Nat} (h : Src w B) (hP : B < P) (j : Nat) (v : Value) : Src (w.setCell ⟨P, j, none⟩ v) B := h.mut ((Mut.refl _ [P]).setCell (p := ⟨P, j, none⟩) (by simp) v) (by simp; omega)
theorem Src.mutNone {w w' : World} {B : Nat} {row : Option Nat} (h : Src w B) (hg : w.grownBy w' row) (hr : ∀ k, row = some k → B < k) : Src w' B := by
  cases row with
  | none => exact h.mut (S := []) ⟨hg.os, hg.tape, hg.output, hg.size, fun k hk _ => hg.block k hk (by simp)⟩ (by simp)
  | some r => exact h.mut (S := [r]) ⟨hg.os, hg.tape, hg.output, hg.size, fun k hk hn => hg.block k hk (fun e => hn (by cases e; simp))⟩ (fun k hk => by simp at hk; rw [hk]; exact hr r rfl)
theorem owns_lowD {w : World} {b b' size n : Nat} {e : TypeId} {v : Value} {xs : List Value} (h : w.ownsRow b e size v n xs) (hb : b' ≤ b) : w.ownsRow b' e size v n xs :=
  ⟨h.1, h.2.elim Or.inl (fun ⟨g, cap, cur, hv, hg, r⟩ => Or.inr ⟨g, cap, cur, hv, Nat.le_trans hb hg, r⟩)⟩
/-- What a draw of rectangles leaves. -/
def DrwL (B : Nat) (w : World) (e : Ending) (w' : World) : Prop := ∃ (q : Option Addr) (n c : Nat) (l : List Q4), e = .returned (.slice q n c) ∧ SlT enc4 4 w' q n l ∧ n ≤ 3201 ∧ (∀ a, q = some a → w.heap.size ≤ a.block) ∧ Src w' B ∧ Mut w w' [B]
end Go.Proofs.Ytaigndaabmelhaa
/- Contract of l33DrawRegion. Condition: a source. -/
namespace Go.Proofs.Ytaigndaabmelhaa
open Go.RowKit

set_option maxRecDepth 100000 in
set_option maxHeartbeats 16000000 in
theorem drawRegion_any (B : Nat) (w : World) (hS : Src w B) :
    Calls Try.prog 93 #[.pointer (some ⟨B, 0, none⟩)] w (DrwL B w) := by
  obtain ⟨i0, hi, hz0, hz1, hz2⟩ := info_parts info_Rect
  have hBw : B < w.heap.size := hS.lt
  go_enter Try.func93, Try.ntmps93
  go_wp2_with fail
  refine (l03Bits_any none 0 0 [] _ (SlT.zero _ _) (by omega) (by simp)).mono ?_
  rintro e w1 ⟨RB, rfl, ob, E1⟩
  have S := hS.ext E1
  have M := E1.mut [B]
  have hRB := (owns_lt ob).1
  replace ob := hid ob
  clear E1 hS
  go_wp2_with fail
  refine (next_any B 5 _ S (by omega) (by omega)).mono ?_
  rintro e w2 ⟨m, rfl, m0, m1, S2, M2⟩
  have M3 := M.same M2
  replace S := S2
  replace ob := hid (M2.own hBw ob.out)
  clear M M2 S2
  have M := M3
  clear M3
  go_wp2_with fail
  refine (next_any B 24 _ S (by omega) (by omega)).mono ?_
  rintro e w2b ⟨z, rfl, z0, z1, S2, M2⟩
  have M3 := M.same M2
  replace S := S2
  replace ob := hid (M2.own hBw ob.out)
  clear M M2 S2
  have M := M3
  clear M3
  by_cases hz : z = 0
  · subst hz
    clear m0 m1
    go_wp2_with fail
    go_loopw [5, 6, 7, 8, 9, 10, 11] (fun v _ _ _ _ _ _ wr => ∃ (i : Int) (g : Grid), v = .int .i64 i ∧ 0 ≤ i ∧ i ≤ 16 ∧ Src wr B ∧ Mut w wr [B] ∧ Hid (wr.ownsRow w.heap.size 4 1 (.slice (some ⟨RB, 0, none⟩) 6400 6400) 6400 (gcells g))) (fun v _ _ _ _ _ _ _ => (20 - intOf v).toNat)
    case atStart => exact ⟨0, _, rfl, by omega, by omega, S, M, ob⟩
    case round =>
      clear S M ob
      obtain ⟨i, g, rfl, hi0, hi1, S, M, ob⟩ := hrel
      by_cases him : i < 16
      · skip
        go_wp2_with fail
        refine (next_any B 16 _ S (by omega) (by omega)).mono ?_
        rintro e w3 ⟨a, rfl, a0, a1, S2, M2⟩
        have M3 := M.same M2
        replace S := S2
        replace ob := hid (M2.own hBw ob.out)
        clear M M2 S2
        have M := M3
        clear M3
        go_wp2_with fail
        refine (next_any B 8 _ S (by omega) (by omega)).mono ?_
        rintro e w4 ⟨b, rfl, b0, b1, S2, M2⟩
        have M3 := M.same M2
        replace S := S2
        replace ob := hid (M2.own hBw ob.out)
        clear M M2 S2
        have M := M3
        clear M3
        go_wp2_with fail
        refine (next_any B 7 _ S (by omega) (by omega)).mono ?_
        rintro e w5 ⟨c, rfl, c0, c1, S2, M2⟩
        have M3 := M.same M2
        replace S := S2
        replace ob := hid (M2.own hBw ob.out)
        clear M M2 S2
        have M := M3
        clear M3
        go_wp2_with fail
        refine (next_any B 3 _ S (by omega) (by omega)).mono ?_
        rintro e w6 ⟨t, rfl, t0, t1, S2, M2⟩
        have M3 := M.same M2
        replace S := S2
        replace ob := hid (M2.own hBw ob.out)
        clear M M2 S2
        have M := M3
        clear M3
        by_cases ht : t = 0
        · subst ht
          go_wp2_with fail
          refine (next_any B 5 _ S (by omega) (by omega)).mono ?_
          rintro e w7 ⟨k, rfl, k0, k1, S2, M2⟩
          have M3 := M.same M2
          replace S := S2
          replace ob := hid (M2.own hBw ob.out)
          clear M M2 S2
          have M := M3
          clear M3
          go_wp2_with fail
          go_loopw [10, 11] (fun v _ wr => ∃ (y : Int) (g : Grid), v = .int .i64 y ∧ (2 * b - 8) ≤ y ∧ y ≤ 1000 ∧ Src wr B ∧ Mut w wr [B] ∧ Hid (wr.ownsRow w.heap.size 4 1 (.slice (some ⟨RB, 0, none⟩) 6400 6400) 6400 (gcells g))) (fun v _ _ => (1100 - intOf v).toNat)
          case atStart => exact ⟨2 * b - 8, g, rfl, by omega, by omega, S, M, ob⟩
          case round =>
            clear S M ob
            obtain ⟨y, g, rfl, hy0, hy1, S, M, ob⟩ := hrel
            by_cases hyd : y < 2 * b - 8 + (1 + k)
            · go_wp2_with fail
              go_loopw [11] (fun v wr => ∃ (x : Int) (g : Grid), v = .int .i64 x ∧ (a - 8) ≤ x ∧ x ≤ 1000 ∧ Src wr B ∧ Mut w wr [B] ∧ Hid (wr.ownsRow w.heap.size 4 1 (.slice (some ⟨RB, 0, none⟩) 6400 6400) 6400 (gcells g))) (fun v _ => (1100 - intOf v).toNat)
              case atStart => exact ⟨a - 8, g, rfl, by omega, by omega, S, M, ob⟩
              case round =>
                clear S M ob
                obtain ⟨x, g, rfl, hx0, hx1, S, M, ob⟩ := hrel
                by_cases hxc : x < a - 8 + 1
                · have hc : onC x y = true := by rw [onC_iff]; omega
                  have hat := atG_lt hc
                  have hatI : (atG x y : Int) < 6400 := by omega
                  obtain ⟨v0, e0⟩ := owns_cell ob.out (atG x y) (by omega)
                  have hf := owns_free ob.out
                  have hRBl := hid (owns_lt ob.out)
                  have hc := hid hc
                  go_wp2_with (go_at_call 125; refine (l03At_any _ _ _ hc.out).mono ?_; rintro e w' ⟨rfl, rfl⟩)
                  go_roundw
                  case rel => exact ⟨x + 1, gset g (atG x y) true, rfl, by omega, by omega, S.mut ((Mut.refl _ [RB]).setCell (p := ⟨RB, atG x y, none⟩) (by simp) _) (by simp; omega), M.setYoung hRBl.out.1 _, hid (by rw [← gcells_set]; exact owns_set ob.out _ _)⟩
                  case measure => simp [intOf] <;> omega
                · go_wp2_with fail
                  go_roundw
                  case rel => exact ⟨y + 1, g, rfl, by omega, by omega, S, M, ob⟩
                  case measure => simp [intOf] <;> omega
            · go_wp2_with fail
              go_roundw
              case rel => exact ⟨i + 1, g, rfl, by omega, by omega, S, M, ob⟩
              case measure => simp [intOf] <;> omega
        · have htb : (t == 0) = false := by simpa using ht
          clear ht
          go_wp2_with fail
          go_loopw [10, 11] (fun v _ wr => ∃ (y : Int) (g : Grid), v = .int .i64 y ∧ (2 * b - 8) ≤ y ∧ y ≤ 1000 ∧ Src wr B ∧ Mut w wr [B] ∧ Hid (wr.ownsRow w.heap.size 4 1 (.slice (some ⟨RB, 0, none⟩) 6400 6400) 6400 (gcells g))) (fun v _ _ => (1100 - intOf v).toNat)
          case atStart => exact ⟨2 * b - 8, g, rfl, by omega, by omega, S, M, ob⟩
          case round =>
            clear S M ob
            obtain ⟨y, g, rfl, hy0, hy1, S, M, ob⟩ := hrel
            by_cases hyd : y < 2 * b - 8 + 1
            · go_wp2_with fail
              go_loopw [11] (fun v wr => ∃ (x : Int) (g : Grid), v = .int .i64 x ∧ (a - 8) ≤ x ∧ x ≤ 1000 ∧ Src wr B ∧ Mut w wr [B] ∧ Hid (wr.ownsRow w.heap.size 4 1 (.slice (some ⟨RB, 0, none⟩) 6400 6400) 6400 (gcells g))) (fun v _ => (1100 - intOf v).toNat)
              case atStart => exact ⟨a - 8, g, rfl, by omega, by omega, S, M, ob⟩
              case round =>
                clear S M ob
                obtain ⟨x, g, rfl, hx0, hx1, S, M, ob⟩ := hrel
                by_cases hxc : x < a - 8 + (1 + c)
                · have hc : onC x y = true := by rw [onC_iff]; omega
                  have hat := atG_lt hc
                  have hatI : (atG x y : Int) < 6400 := by omega
                  obtain ⟨v0, e0⟩ := owns_cell ob.out (atG x y) (by omega)
                  have hf := owns_free ob.out
                  have hRBl := hid (owns_lt ob.out)
                  have hc := hid hc
                  go_wp2_with (go_at_call 125; refine (l03At_any _ _ _ hc.out).mono ?_; rintro e w' ⟨rfl, rfl⟩)
                  go_roundw
                  case rel => exact ⟨x + 1, gset g (atG x y) true, rfl, by omega, by omega, S.mut ((Mut.refl _ [RB]).setCell (p := ⟨RB, atG x y, none⟩) (by simp) _) (by simp; omega), M.setYoung hRBl.out.1 _, hid (by rw [← gcells_set]; exact owns_set ob.out _ _)⟩
                  case measure => simp [intOf] <;> omega
                · go_wp2_with fail
                  go_roundw
                  case rel => exact ⟨y + 1, g, rfl, by omega, by omega, S, M, ob⟩
                  case measure => simp [intOf] <;> omega
            · go_wp2_with fail
              go_roundw
              case rel => exact ⟨i + 1, g, rfl, by omega, by omega, S, M, ob⟩
              case measure => simp [intOf] <;> omega
      · skip
        have hIn : i = 16 := by omega
        subst hIn
        have hbt := hid (Bits.of ob.out)
        go_wp2_with fail
        refine (l03Canon_any RB 6400 g _ hbt.out).mono ?_
        rintro e w8 ⟨q8, c8, rfl, o8, E8⟩
        have hwr := hid M.size
        replace S := S.ext E8
        replace M := M.ext E8
        replace o8 := hid (owns_lowD o8 hwr.out)
        have hcl := canon_len g
        clear E8 ob hbt
        go_wp2_with fail
        refine (next_any B 24 _ S (by omega) (by omega)).mono ?_
        rintro e w9 ⟨t, rfl, t0, t1, S2, M2⟩
        have o9 := hid (M2.own hBw o8.out)
        have M9 := M.same M2
        clear S M o8 M2
        by_cases ht : t = 0
        · have o9a := hid (World.ownsRow.alloc o9.out (.cells #[.int .i64 0, .int .i64 0, .int .i64 1, .int .i64 1] 50))
          have M9a := hid (M9.alloc (.cells #[.int .i64 0, .int .i64 0, .int .i64 1, .int .i64 1] 50))
          have S9a := hid (S2.ext ((Ext.refl _).alloc (.cells #[.int .i64 0, .int .i64 0, .int .i64 1, .int .i64 1] 50)))
          have hbase : w.heap.size ≤ (w9.alloc (.cells #[.int .i64 0, .int .i64 0, .int .i64 1, .int .i64 1] 50)).heap.size := (M9.alloc _).size
          go_wp2_with (at_builtin; refine wpList_append_own_at _ rfl _ _ 27 rfl w.heap.size 50 i0 _ 4 32 Try.underlying27 hi hz0 hz1 hz2 rfl (by omega) _ _ _ rfl o9a.out ⟨_, 0, none⟩ 1 1 [.int .i64 0, .int .i64 0, .int .i64 1, .int .i64 1] rfl rfl (cells_new _ [_, _, _, _] _) (one_int4 _ _ _ _) (len_le (by omega) (by omega)) (by omega) hbase ?_; intro v' wA ho' hg' _ hb'; obtain ⟨qa, ca, rfl⟩ := owns_forms ho'; have MA := hid (M9a.out.young (fun k hk => (o9a.out.lt k hk).1) hg'); have SA := hid (S9a.out.mutNone hg' (fun k hk => by have h7 := (o9a.out.lt k hk).1; omega)); replace ho' := hid ho'; clear hg' hb')
          go_ret
          have hO : World.ownsRow wA w.heap.size 50 4 (.slice qa ((canon g).length + 1) ca) ((canon g).length + 1) ((canon g ++ [(⟨0, 0, 1, 1⟩ : Q4)]).flatMap enc4) := by rw [List.flatMap_append]; exact ho'.out
          exact ⟨qa, _, ca, canon g ++ [(⟨0, 0, 1, 1⟩ : Q4)], rfl, SlT.of_owns enc4_len (by rw [List.length_append]; rfl) hO, by omega, fun a ha => (hO.lt a.block (by rw [ha]; rfl)).1, SA.out, MA.out⟩
        · go_wp2_with fail
          go_ret
          exact ⟨q8, _, c8, canon g, rfl, SlT.of_owns enc4_len rfl o9.out, by omega, fun a ha => (o9.out.lt a.block (by rw [ha]; rfl)).1, S2, M9⟩
  · have hzb : (z == 0) = false := by simpa using hz
    clear hz
    go_wp2_with fail
    go_loopw [5, 6, 7, 8, 9, 10, 11] (fun v _ _ _ _ _ _ wr => ∃ (i : Int) (g : Grid), v = .int .i64 i ∧ 0 ≤ i ∧ i ≤ (2 + m) ∧ Src wr B ∧ Mut w wr [B] ∧ Hid (wr.ownsRow w.heap.size 4 1 (.slice (some ⟨RB, 0, none⟩) 6400 6400) 6400 (gcells g))) (fun v _ _ _ _ _ _ _ => (20 - intOf v).toNat)
    case atStart => exact ⟨0, _, rfl, by omega, by omega, S, M, ob⟩
    case round =>
      clear S M ob
      obtain ⟨i, g, rfl, hi0, hi1, S, M, ob⟩ := hrel
      by_cases him : i < (2 + m)
      · skip
        go_wp2_with fail
        refine (next_any B 16 _ S (by omega) (by omega)).mono ?_
        rintro e w3 ⟨a, rfl, a0, a1, S2, M2⟩
        have M3 := M.same M2
        replace S := S2
        replace ob := hid (M2.own hBw ob.out)
        clear M M2 S2
        have M := M3
        clear M3
        go_wp2_with fail
        refine (next_any B 8 _ S (by omega) (by omega)).mono ?_
        rintro e w4 ⟨b, rfl, b0, b1, S2, M2⟩
        have M3 := M.same M2
        replace S := S2
        replace ob := hid (M2.own hBw ob.out)
        clear M M2 S2
        have M := M3
        clear M3
        go_wp2_with fail
        refine (next_any B 7 _ S (by omega) (by omega)).mono ?_
        rintro e w5 ⟨c, rfl, c0, c1, S2, M2⟩
        have M3 := M.same M2
        replace S := S2
        replace ob := hid (M2.own hBw ob.out)
        clear M M2 S2
        have M := M3
        clear M3
        go_wp2_with fail
        refine (next_any B 3 _ S (by omega) (by omega)).mono ?_
        rintro e w6 ⟨t, rfl, t0, t1, S2, M2⟩
        have M3 := M.same M2
        replace S := S2
        replace ob := hid (M2.own hBw ob.out)
        clear M M2 S2
        have M := M3
        clear M3
        by_cases ht : t = 0
        · subst ht
          go_wp2_with fail
          refine (next_any B 5 _ S (by omega) (by omega)).mono ?_
          rintro e w7 ⟨k, rfl, k0, k1, S2, M2⟩
          have M3 := M.same M2
          replace S := S2
          replace ob := hid (M2.own hBw ob.out)
          clear M M2 S2
          have M := M3
          clear M3
          go_wp2_with fail
          go_loopw [10, 11] (fun v _ wr => ∃ (y : Int) (g : Grid), v = .int .i64 y ∧ (2 * b - 8) ≤ y ∧ y ≤ 1000 ∧ Src wr B ∧ Mut w wr [B] ∧ Hid (wr.ownsRow w.heap.size 4 1 (.slice (some ⟨RB, 0, none⟩) 6400 6400) 6400 (gcells g))) (fun v _ _ => (1100 - intOf v).toNat)
          case atStart => exact ⟨2 * b - 8, g, rfl, by omega, by omega, S, M, ob⟩
          case round =>
            clear S M ob
            obtain ⟨y, g, rfl, hy0, hy1, S, M, ob⟩ := hrel
            by_cases hyd : y < 2 * b - 8 + (1 + k)
            · go_wp2_with fail
              go_loopw [11] (fun v wr => ∃ (x : Int) (g : Grid), v = .int .i64 x ∧ (a - 8) ≤ x ∧ x ≤ 1000 ∧ Src wr B ∧ Mut w wr [B] ∧ Hid (wr.ownsRow w.heap.size 4 1 (.slice (some ⟨RB, 0, none⟩) 6400 6400) 6400 (gcells g))) (fun v _ => (1100 - intOf v).toNat)
              case atStart => exact ⟨a - 8, g, rfl, by omega, by omega, S, M, ob⟩
              case round =>
                clear S M ob
                obtain ⟨x, g, rfl, hx0, hx1, S, M, ob⟩ := hrel
                by_cases hxc : x < a - 8 + 1
                · have hc : onC x y = true := by rw [onC_iff]; omega
                  have hat := atG_lt hc
                  have hatI : (atG x y : Int) < 6400 := by omega
                  obtain ⟨v0, e0⟩ := owns_cell ob.out (atG x y) (by omega)
                  have hf := owns_free ob.out
                  have hRBl := hid (owns_lt ob.out)
                  have hc := hid hc
                  go_wp2_with (go_at_call 125; refine (l03At_any _ _ _ hc.out).mono ?_; rintro e w' ⟨rfl, rfl⟩)
                  go_roundw
                  case rel => exact ⟨x + 1, gset g (atG x y) true, rfl, by omega, by omega, S.mut ((Mut.refl _ [RB]).setCell (p := ⟨RB, atG x y, none⟩) (by simp) _) (by simp; omega), M.setYoung hRBl.out.1 _, hid (by rw [← gcells_set]; exact owns_set ob.out _ _)⟩
                  case measure => simp [intOf] <;> omega
                · go_wp2_with fail
                  go_roundw
                  case rel => exact ⟨y + 1, g, rfl, by omega, by omega, S, M, ob⟩
                  case measure => simp [intOf] <;> omega
            · go_wp2_with fail
              go_roundw
              case rel => exact ⟨i + 1, g, rfl, by omega, by omega, S, M, ob⟩
              case measure => simp [intOf] <;> omega
        · have htb : (t == 0) = false := by simpa using ht
          clear ht
          go_wp2_with fail
          go_loopw [10, 11] (fun v _ wr => ∃ (y : Int) (g : Grid), v = .int .i64 y ∧ (2 * b - 8) ≤ y ∧ y ≤ 1000 ∧ Src wr B ∧ Mut w wr [B] ∧ Hid (wr.ownsRow w.heap.size 4 1 (.slice (some ⟨RB, 0, none⟩) 6400 6400) 6400 (gcells g))) (fun v _ _ => (1100 - intOf v).toNat)
          case atStart => exact ⟨2 * b - 8, g, rfl, by omega, by omega, S, M, ob⟩
          case round =>
            clear S M ob
            obtain ⟨y, g, rfl, hy0, hy1, S, M, ob⟩ := hrel
            by_cases hyd : y < 2 * b - 8 + 1
            · go_wp2_with fail
              go_loopw [11] (fun v wr => ∃ (x : Int) (g : Grid), v = .int .i64 x ∧ (a - 8) ≤ x ∧ x ≤ 1000 ∧ Src wr B ∧ Mut w wr [B] ∧ Hid (wr.ownsRow w.heap.size 4 1 (.slice (some ⟨RB, 0, none⟩) 6400 6400) 6400 (gcells g))) (fun v _ => (1100 - intOf v).toNat)
              case atStart => exact ⟨a - 8, g, rfl, by omega, by omega, S, M, ob⟩
              case round =>
                clear S M ob
                obtain ⟨x, g, rfl, hx0, hx1, S, M, ob⟩ := hrel
                by_cases hxc : x < a - 8 + (1 + c)
                · have hc : onC x y = true := by rw [onC_iff]; omega
                  have hat := atG_lt hc
                  have hatI : (atG x y : Int) < 6400 := by omega
                  obtain ⟨v0, e0⟩ := owns_cell ob.out (atG x y) (by omega)
                  have hf := owns_free ob.out
                  have hRBl := hid (owns_lt ob.out)
                  have hc := hid hc
                  go_wp2_with (go_at_call 125; refine (l03At_any _ _ _ hc.out).mono ?_; rintro e w' ⟨rfl, rfl⟩)
                  go_roundw
                  case rel => exact ⟨x + 1, gset g (atG x y) true, rfl, by omega, by omega, S.mut ((Mut.refl _ [RB]).setCell (p := ⟨RB, atG x y, none⟩) (by simp) _) (by simp; omega), M.setYoung hRBl.out.1 _, hid (by rw [← gcells_set]; exact owns_set ob.out _ _)⟩
                  case measure => simp [intOf] <;> omega
                · go_wp2_with fail
                  go_roundw
                  case rel => exact ⟨y + 1, g, rfl, by omega, by omega, S, M, ob⟩
                  case measure => simp [intOf] <;> omega
            · go_wp2_with fail
              go_roundw
              case rel => exact ⟨i + 1, g, rfl, by omega, by omega, S, M, ob⟩
              case measure => simp [intOf] <;> omega
      · skip
        have hIn : i = (2 + m) := by omega
        subst hIn
        have hbt := hid (Bits.of ob.out)
        go_wp2_with fail
        refine (l03Canon_any RB 6400 g _ hbt.out).mono ?_
        rintro e w8 ⟨q8, c8, rfl, o8, E8⟩
        have hwr := hid M.size
        replace S := S.ext E8
        replace M := M.ext E8
        replace o8 := hid (owns_lowD o8 hwr.out)
        have hcl := canon_len g
        clear E8 ob hbt
        go_wp2_with fail
        refine (next_any B 24 _ S (by omega) (by omega)).mono ?_
        rintro e w9 ⟨t, rfl, t0, t1, S2, M2⟩
        have o9 := hid (M2.own hBw o8.out)
        have M9 := M.same M2
        clear S M o8 M2
        by_cases ht : t = 0
        · have o9a := hid (World.ownsRow.alloc o9.out (.cells #[.int .i64 0, .int .i64 0, .int .i64 1, .int .i64 1] 50))
          have M9a := hid (M9.alloc (.cells #[.int .i64 0, .int .i64 0, .int .i64 1, .int .i64 1] 50))
          have S9a := hid (S2.ext ((Ext.refl _).alloc (.cells #[.int .i64 0, .int .i64 0, .int .i64 1, .int .i64 1] 50)))
          have hbase : w.heap.size ≤ (w9.alloc (.cells #[.int .i64 0, .int .i64 0, .int .i64 1, .int .i64 1] 50)).heap.size := (M9.alloc _).size
          go_wp2_with (at_builtin; refine wpList_append_own_at _ rfl _ _ 27 rfl w.heap.size 50 i0 _ 4 32 Try.underlying27 hi hz0 hz1 hz2 rfl (by omega) _ _ _ rfl o9a.out ⟨_, 0, none⟩ 1 1 [.int .i64 0, .int .i64 0, .int .i64 1, .int .i64 1] rfl rfl (cells_new _ [_, _, _, _] _) (one_int4 _ _ _ _) (len_le (by omega) (by omega)) (by omega) hbase ?_; intro v' wA ho' hg' _ hb'; obtain ⟨qa, ca, rfl⟩ := owns_forms ho'; have MA := hid (M9a.out.young (fun k hk => (o9a.out.lt k hk).1) hg'); have SA := hid (S9a.out.mutNone hg' (fun k hk => by have h7 := (o9a.out.lt k hk).1; omega)); replace ho' := hid ho'; clear hg' hb')
          go_ret
          have hO : World.ownsRow wA w.heap.size 50 4 (.slice qa ((canon g).length + 1) ca) ((canon g).length + 1) ((canon g ++ [(⟨0, 0, 1, 1⟩ : Q4)]).flatMap enc4) := by rw [List.flatMap_append]; exact ho'.out
          exact ⟨qa, _, ca, canon g ++ [(⟨0, 0, 1, 1⟩ : Q4)], rfl, SlT.of_owns enc4_len (by rw [List.length_append]; rfl) hO, by omega, fun a ha => (hO.lt a.block (by rw [ha]; rfl)).1, SA.out, MA.out⟩
        · go_wp2_with fail
          go_ret
          exact ⟨q8, _, c8, canon g, rfl, SlT.of_owns enc4_len rfl o9.out, by omega, fun a ha => (o9.out.lt a.block (by rw [ha]; rfl)).1, S2, M9⟩
end Go.Proofs.Ytaigndaabmelhaa
