/- Contract of l32DrawPath: a path of at most 14 points. Condition: at most 2^20 bytes of code. -/
import Derived.Test.YtiljojpnbpdaeaaBnd
import Derived.Test.YtiljojpnbpdaeaaDru
import Derived.Deep.Cut
import Derived.Deep.RegionWith
namespace Go.Proofs.Ytiljojpnbpdaeaa
open Go.RowKit

theorem info_PointD : (Try.prog.info? 47).map (fun i => (i.zero, i.size, i.bytes)) = some (some (.agg #[.int .i64 0, .int .i64 0]), 2, 16) := by kernel_rfl
/-- What holds of a path while it is drawn. -/
structure PhP (B : Nat) (w0 w : World) (v : Value) (ps : List Q2) : Prop where
  src : Src w B
  mt : Mut w0 w [B]
  own : w.ownsRow w0.heap.size 47 2 v ps.length (ps.flatMap enc2)
  lt : B < w0.heap.size
theorem PhP.draw {B : Nat} {w0 w w' : World} {v : Value} {ps : List Q2} (h : PhP B w0 w v ps) (hS : Src w' B) (hM : Mut w w' [B]) : PhP B w0 w' v ps :=
  ⟨hS, h.mt.same hM, hM.own h.lt h.own, h.lt⟩
theorem PhP.ext {B : Nat} {w0 w w' : World} {v : Value} {ps : List Q2} (h : PhP B w0 w v ps) (hE : Ext w w') : PhP B w0 w' v ps :=
  ⟨h.src.ext hE, h.mt.ext hE, owns_ext h.own hE, h.lt⟩
theorem PhP.put {B P : Nat} {w0 w : World} {v : Value} {ps : List Q2} (h : PhP B w0 w v ps) (hP : w0.heap.size ≤ P) (hne : v.ownBlock ≠ some P) (j : Nat) (u : Value) : PhP B w0 (w.setCell ⟨P, j, none⟩ u) v ps :=
  ⟨h.src.young (by have := h.lt; omega) j u, h.mt.setYoung hP u, owns_other h.own hne j u, h.lt⟩
theorem PhP.push {B : Nat} {w0 w wA : World} {v v' : Value} {ps : List Q2} {p : Q2} {o : Obj} (h : PhP B w0 w v ps) (hoA : wA.ownsRow w0.heap.size 47 2 v' (ps.length + 1) (ps.flatMap enc2 ++ [.int .i64 p.a, .int .i64 p.b])) (hgA : (w.alloc o).grownBy wA v.ownBlock) : PhP B w0 wA v' (ps ++ [p]) := by
  have hv : ∀ k, v.ownBlock = some k → w0.heap.size ≤ k := fun k hk => (h.own.lt k hk).1
  have hl := h.lt
  refine ⟨(h.src.ext ((Ext.refl _).alloc o)).mutNone hgA (fun k hk => by have := hv k hk; omega), (h.mt.alloc o).young hv hgA, ?_, h.lt⟩
  rw [List.length_append, List.flatMap_append]; exact hoA
/-- What a drawn path leaves. -/
def DrwP (B : Nat) (w : World) (e : Ending) (w' : World) : Prop := ∃ (v : Value) (ps : List Q2), e = .returned v ∧ ps.length ≤ 14 ∧ PhP B w w' v ps
set_option maxRecDepth 100000 in
set_option maxHeartbeats 8000000 in
theorem drawPath_any (B : Nat) (w : World) (hS : Src w B) :
    Calls Try.prog 82 #[.pointer (some ⟨B, 0, none⟩)] w (DrwP B w) := by
  obtain ⟨i0, hi, hz0, hz1, hz2⟩ := info_parts info_PointD
  have hBw : B < w.heap.size := hS.lt
  go_enter Try.func82, Try.ntmps82
  go_wp2_with fail
  refine (drawUnit_any B _ hS).mono ?_
  rintro e w1 ⟨p0, rfl, _, S1, M1⟩
  go_upto_region 2 with (fail)
  have hP : PhP B w (w1.alloc (.cells #[.int .i64 p0.a, .int .i64 p0.b] 47)) (.slice (some ⟨w1.heap.size, 0, none⟩) 1 1) [p0] :=
    ⟨S1.ext ((Ext.refl _).alloc _), M1.alloc _, owns_blk (n := 1) (size := 2) (cs := [.int .i64 p0.a, .int .i64 p0.b]) (heap_new w1 (.cells #[.int .i64 p0.a, .int .i64 p0.b] 47)) M1.size rfl (by simp [maxLen]), hBw⟩
  generalize World.alloc _ _ = w2 at hP ⊢
  clear S1 M1
  go_wp2_with fail
  refine (next_any B 4 _ hP.src (by omega) (by omega)).mono ?_
  rintro e w3 ⟨t0, rfl, t00, t01, S3, M3⟩
  replace hP := hP.draw S3 M3
  clear S3 M3
  go_wp2_with fail
  refine (next_any B 12 _ hP.src (by omega) (by omega)).mono ?_
  rintro e w4 ⟨n0, rfl, n00, n01, S4, M4⟩
  replace hP := hP.draw S4 M4
  clear S4 M4
  go_wp2_with fail
  go_loopw [3, 4, 5, 6] (fun v tv nv _ wr => ∃ (n tn : Int) (ps : List Q2), tv = .int .i64 tn ∧ 0 ≤ tn ∧ tn < 4 ∧ nv = .int .i64 n ∧ 0 ≤ n ∧ n ≤ 11 ∧ Hid ((ps.length : Int) + n ≤ 12) ∧ Hid (1 ≤ ps.length) ∧ PhP B w wr v ps) (fun _ _ nv _ _ => (intOf nv).toNat)
  case atStart => exact ⟨n0, t0, [p0], rfl, by omega, by omega, rfl, by omega, by omega, by show (_ : Int) ≤ _; simp; omega, by show _ ≤ _; simp, hP⟩
  case round =>
    clear hP t00 t01 n00 n01
    obtain ⟨n, tn, ps, rfl, t00, t01, rfl, n00, n01, hlen, hpos, hP⟩ := hrel
    obtain ⟨qv, cv, rfl⟩ := owns_forms hP.own
    by_cases hn : 0 < n
    · go_wp2_with fail
      refine (next_any B 3 _ hP.src (by omega) (by omega)).mono ?_
      rintro e w5 ⟨r3, rfl, r30, r31, S5, M5⟩
      replace hP := hP.draw S5 M5
      clear S5 M5
      by_cases h3 : r3 = 0
      · subst h3
        go_wp2_with fail
        refine (next_any B 4 _ hP.src (by omega) (by omega)).mono ?_
        rintro e w6 ⟨tm, rfl, t10, t11, S6, M6⟩
        replace hP := hP.draw S6 M6
        clear S6 M6 t00 t01
        obtain ⟨gv, rfl⟩ : ∃ gv, qv = some ⟨gv, 0, none⟩ := by
          rcases Joins.ownsRow_forms hP.own with ⟨h1, h2⟩ | ⟨gX, c, h1⟩
          · simp at h1; have := hpos.out; omega
          · simp at h1; exact ⟨gX, h1.1⟩
        obtain ⟨N, hN⟩ : ∃ N, ps.length = N + 1 := ⟨ps.length - 1, by have := hpos.out; omega⟩
        have hsl := SlT.of_owns enc2_len rfl hP.own
        obtain ⟨_, _, pl, hpp, hb, hx, x0, x1⟩ := hsl.two (k := N) (by omega)
        cases hpp
        simp only [Nat.zero_add] at x0 x1
        have hPh := hid hP
        have hN12 : (N : Int) ≤ 12 := by have := hlen.out; omega
        rw [hN]
        clear hsl
        have hNh := hid hN
        clear hN hP
        go_upto_region 9 with (fail)
        generalize hV : World.alloc _ _ = w7
        obtain ⟨E7, z7, b7⟩ := boxes1 hV
        clear hV
        have b7 : Blk w7 w6.heap.size [.int .i64 pl.a, .int .i64 pl.b] 47 := b7
        have hPw : w.heap.size ≤ w6.heap.size := hPh.out.mt.size
        have hneP : Value.ownBlock (.slice (some ⟨gv, 0, none⟩) ps.length cv) ≠ some w6.heap.size := fun e => by have := (hPh.out.own.lt _ e).2; omega
        have h7 := hid (hPh.out.ext E7)
        obtain ⟨P, hPe⟩ : ∃ P, P = w6.heap.size := ⟨_, rfl⟩
        rw [← hPe] at b7 hPw hneP ⊢
        replace hPe := hid hPe
        replace hneP := hid hneP
        clear E7 z7 hPh x0 x1 hb
        have hbt := hid (show (0 : Int) ≤ tm ∧ tm < 4 by omega)
        rcases (show tm = 0 ∨ tm = 1 ∨ tm = 2 ∨ tm = 3 by omega) with rfl | rfl | rfl | rfl
        all_goals
          have bA := (b7.alloc (.cells #[.int .i64 1, .int .i64 0, .int .i64 (-1), .int .i64 0] 2)).drew
          have k7 := bA.cells
          have f7 := bA.free
          have l7 := bA.lt
          have k6 := b7.drew.cells
          have f6 := b7.drew.free
          have l6 := b7.drew.lt
          have k7' := (b7.alloc (.cells #[.int .i64 1, .int .i64 0, .int .i64 (-1), .int .i64 0] 2)).cells
          have f7' := (b7.alloc (.cells #[.int .i64 1, .int .i64 0, .int .i64 (-1), .int .i64 0] 2)).free
          go_region
          generalize hV : World.drew _ = w8
          obtain ⟨va, h8, b8⟩ : ∃ va, Hid (PhP B w w8 (.slice (some ⟨gv, 0, none⟩) ps.length cv) ps) ∧ Blk w8 P [.int .i64 va, .int .i64 pl.b] 47 :=
            ⟨_, by rw [← hV]; exact hid (((h7.out.ext ((Ext.refl _).alloc _)).put hPw hneP.out 0 _).ext (Ext.refl _).drew), by rw [← hV]; exact ((b7.alloc _).set 0 _).drew⟩
          clear hV bA k7 f7 l7 k6 f6 l6 k7' f7' h7 b7
          go_wp2_with fail
          have bA := (b8.alloc (.cells #[.int .i64 0, .int .i64 1, .int .i64 0, .int .i64 (-1)] 2)).drew
          have k7 := bA.cells
          have f7 := bA.free
          have l7 := bA.lt
          have k6 := b8.drew.cells
          have f6 := b8.drew.free
          have l6 := b8.drew.lt
          have k7' := (b8.alloc (.cells #[.int .i64 0, .int .i64 1, .int .i64 0, .int .i64 (-1)] 2)).cells
          have f7' := (b8.alloc (.cells #[.int .i64 0, .int .i64 1, .int .i64 0, .int .i64 (-1)] 2)).free
          go_region
          generalize hV : World.drew _ = w9
          obtain ⟨vb, h9, b9⟩ : ∃ vb, Hid (PhP B w w9 (.slice (some ⟨gv, 0, none⟩) ps.length cv) ps) ∧ Blk w9 P [.int .i64 va, .int .i64 vb] 47 :=
            ⟨_, by rw [← hV]; exact hid (((h8.out.ext ((Ext.refl _).alloc _)).put hPw hneP.out 1 _).ext (Ext.refl _).drew), by rw [← hV]; exact ((b8.alloc _).set 1 _).drew⟩
          clear hV bA k7 f7 l7 k6 f6 l6 k7' f7' h8 b8
          have k9 := b9.cells
          have l9 := b9.lt
          have o9 := h9.out.own
          rw [hNh.out] at o9
          have hbase : w.heap.size ≤ (w9.alloc (.cells #[.int .i64 va, .int .i64 vb] 47)).heap.size := (h9.out.mt.alloc _).size
          go_wp2_with (at_builtin; refine wpList_append_own_at (o := ⟨some 48, _, _, _, _, _⟩) _ rfl _ _ 40 rfl w.heap.size 47 i0 _ 2 16 Try.underlying40 hi hz0 hz1 hz2 rfl (by omega) _ _ _ rfl (o9.alloc _) ⟨w9.heap.size, 0, none⟩ 1 1 [.int .i64 va, .int .i64 vb] rfl rfl (cells_new _ [_, _] _) (one_int2 _ _) (len_le (by omega) (by omega)) (by omega) hbase ?_; intro v' wA hoA hgA hnA hbA)
          go_roundw
          case rel =>
            rw [← hNh.out] at hoA
            exact ⟨n - 1, _, ps ++ [⟨va, vb⟩], rfl, hbt.out.1, hbt.out.2, by go_num, by omega, by omega, by show (_ : Int) ≤ _; rw [List.length_append]; have := hlen.out; simp; omega, by show _ ≤ _; rw [List.length_append]; simp, h9.out.push hoA hgA⟩
          case measure => simp [intOf]; omega
      · have e3 : (r3 == 0) = false := by simpa using h3
        clear h3
        obtain ⟨gv, rfl⟩ : ∃ gv, qv = some ⟨gv, 0, none⟩ := by
          rcases Joins.ownsRow_forms hP.own with ⟨h1, h2⟩ | ⟨gX, c, h1⟩
          · simp at h1; have := hpos.out; omega
          · simp at h1; exact ⟨gX, h1.1⟩
        obtain ⟨N, hN⟩ : ∃ N, ps.length = N + 1 := ⟨ps.length - 1, by have := hpos.out; omega⟩
        have hsl := SlT.of_owns enc2_len rfl hP.own
        obtain ⟨_, _, pl, hpp, hb, hx, x0, x1⟩ := hsl.two (k := N) (by omega)
        cases hpp
        simp only [Nat.zero_add] at x0 x1
        have hPh := hid hP
        have hN12 : (N : Int) ≤ 12 := by have := hlen.out; omega
        rw [hN]
        clear hsl
        have hNh := hid hN
        clear hN hP
        go_upto_region 9 with (fail)
        generalize hV : World.alloc _ _ = w7
        obtain ⟨E7, z7, b7⟩ := boxes1 hV
        clear hV
        have b7 : Blk w7 w5.heap.size [.int .i64 pl.a, .int .i64 pl.b] 47 := b7
        have hPw : w.heap.size ≤ w5.heap.size := hPh.out.mt.size
        have hneP : Value.ownBlock (.slice (some ⟨gv, 0, none⟩) ps.length cv) ≠ some w5.heap.size := fun e => by have := (hPh.out.own.lt _ e).2; omega
        have h7 := hid (hPh.out.ext E7)
        obtain ⟨P, hPe⟩ : ∃ P, P = w5.heap.size := ⟨_, rfl⟩
        rw [← hPe] at b7 hPw hneP ⊢
        replace hPe := hid hPe
        replace hneP := hid hneP
        clear E7 z7 hPh x0 x1 hb
        have hbt := hid (show (0 : Int) ≤ tn ∧ tn < 4 by omega)
        rcases (show tn = 0 ∨ tn = 1 ∨ tn = 2 ∨ tn = 3 by omega) with rfl | rfl | rfl | rfl
        all_goals
          have bA := (b7.alloc (.cells #[.int .i64 1, .int .i64 0, .int .i64 (-1), .int .i64 0] 2)).drew
          have k7 := bA.cells
          have f7 := bA.free
          have l7 := bA.lt
          have k6 := b7.drew.cells
          have f6 := b7.drew.free
          have l6 := b7.drew.lt
          have k7' := (b7.alloc (.cells #[.int .i64 1, .int .i64 0, .int .i64 (-1), .int .i64 0] 2)).cells
          have f7' := (b7.alloc (.cells #[.int .i64 1, .int .i64 0, .int .i64 (-1), .int .i64 0] 2)).free
          go_region
          generalize hV : World.drew _ = w8
          obtain ⟨va, h8, b8⟩ : ∃ va, Hid (PhP B w w8 (.slice (some ⟨gv, 0, none⟩) ps.length cv) ps) ∧ Blk w8 P [.int .i64 va, .int .i64 pl.b] 47 :=
            ⟨_, by rw [← hV]; exact hid (((h7.out.ext ((Ext.refl _).alloc _)).put hPw hneP.out 0 _).ext (Ext.refl _).drew), by rw [← hV]; exact ((b7.alloc _).set 0 _).drew⟩
          clear hV bA k7 f7 l7 k6 f6 l6 k7' f7' h7 b7
          go_wp2_with fail
          have bA := (b8.alloc (.cells #[.int .i64 0, .int .i64 1, .int .i64 0, .int .i64 (-1)] 2)).drew
          have k7 := bA.cells
          have f7 := bA.free
          have l7 := bA.lt
          have k6 := b8.drew.cells
          have f6 := b8.drew.free
          have l6 := b8.drew.lt
          have k7' := (b8.alloc (.cells #[.int .i64 0, .int .i64 1, .int .i64 0, .int .i64 (-1)] 2)).cells
          have f7' := (b8.alloc (.cells #[.int .i64 0, .int .i64 1, .int .i64 0, .int .i64 (-1)] 2)).free
          go_region
          generalize hV : World.drew _ = w9
          obtain ⟨vb, h9, b9⟩ : ∃ vb, Hid (PhP B w w9 (.slice (some ⟨gv, 0, none⟩) ps.length cv) ps) ∧ Blk w9 P [.int .i64 va, .int .i64 vb] 47 :=
            ⟨_, by rw [← hV]; exact hid (((h8.out.ext ((Ext.refl _).alloc _)).put hPw hneP.out 1 _).ext (Ext.refl _).drew), by rw [← hV]; exact ((b8.alloc _).set 1 _).drew⟩
          clear hV bA k7 f7 l7 k6 f6 l6 k7' f7' h8 b8
          have k9 := b9.cells
          have l9 := b9.lt
          have o9 := h9.out.own
          rw [hNh.out] at o9
          have hbase : w.heap.size ≤ (w9.alloc (.cells #[.int .i64 va, .int .i64 vb] 47)).heap.size := (h9.out.mt.alloc _).size
          go_wp2_with (at_builtin; refine wpList_append_own_at (o := ⟨some 48, _, _, _, _, _⟩) _ rfl _ _ 40 rfl w.heap.size 47 i0 _ 2 16 Try.underlying40 hi hz0 hz1 hz2 rfl (by omega) _ _ _ rfl (o9.alloc _) ⟨w9.heap.size, 0, none⟩ 1 1 [.int .i64 va, .int .i64 vb] rfl rfl (cells_new _ [_, _] _) (one_int2 _ _) (len_le (by omega) (by omega)) (by omega) hbase ?_; intro v' wA hoA hgA hnA hbA)
          go_roundw
          case rel =>
            rw [← hNh.out] at hoA
            exact ⟨n - 1, _, ps ++ [⟨va, vb⟩], rfl, hbt.out.1, hbt.out.2, by go_num, by omega, by omega, by show (_ : Int) ≤ _; rw [List.length_append]; have := hlen.out; simp; omega, by show _ ≤ _; rw [List.length_append]; simp, h9.out.push hoA hgA⟩
          case measure => simp [intOf]; omega
    · obtain rfl : n = 0 := by omega
      go_wp2_with fail
      refine (next_any B 12 _ hP.src (by omega) (by omega)).mono ?_
      rintro e w5 ⟨r5, rfl, r50, r51, S5, M5⟩
      replace hP := hP.draw S5 M5
      clear S5 M5
      by_cases h5 : r5 = 0
      · subst h5
        go_wp2_with fail
        refine (drawUnit_any B _ hP.src).mono ?_
        rintro e w6 ⟨pu, rfl, _, S6, M6⟩
        replace hP := hid (hP.draw S6 M6)
        clear S6 M6
        have hbase : w.heap.size ≤ (w6.alloc (.cells #[.int .i64 pu.a, .int .i64 pu.b] 47)).heap.size := (hP.out.mt.alloc _).size
        go_wp2_with (at_builtin; refine wpList_append_own_at (o := ⟨some 56, _, _, _, _, _⟩) _ rfl _ _ 40 rfl w.heap.size 47 i0 _ 2 16 Try.underlying40 hi hz0 hz1 hz2 rfl (by omega) _ _ _ rfl (hP.out.own.alloc _) ⟨w6.heap.size, 0, none⟩ 1 1 [.int .i64 pu.a, .int .i64 pu.b] rfl rfl (cells_new _ [_, _] _) (one_int2 _ _) (len_le (by have := hlen.out; omega) (by omega)) (by have := hlen.out; omega) hbase ?_; intro v' wA hoA hgA hnA hbA)
        go_ret
        exact ⟨_, ps ++ [pu], rfl, by rw [List.length_append]; have := hlen.out; simp; omega, hP.out.push hoA hgA⟩
      · have e5 : (r5 == 0) = false := by simpa using h5
        go_wp2_with fail
        go_ret
        exact ⟨_, ps, rfl, by have := hlen.out; omega, hP⟩
end Go.Proofs.Ytiljojpnbpdaeaa
