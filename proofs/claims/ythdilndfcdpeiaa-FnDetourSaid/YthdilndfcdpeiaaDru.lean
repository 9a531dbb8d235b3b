/- Contracts of l32DrawUnit, DrawRouteDistance, DrawShortestRoute, big. Condition: at most 2^20 bytes of code. -/
import Derived.Test.YthdilndfcdpeiaaDrb
namespace Go.Proofs.Ythdilndfcdpeiaa
open Go.RowKit

theorem vi_eq {k : IntKind} {a b : Int} (h : a = b) : Value.int k a = .int k b := by rw [h]
def Nr (p : Q2) : Prop := (-50 ≤ p.a ∧ p.a ≤ 50) ∧ (-50 ≤ p.b ∧ p.b ≤ 50)
/-- What a draw of a unit cell leaves. -/
def DrwU (B : Nat) (w : World) (e : Ending) (w' : World) : Prop := ∃ p : Q2, e = .returned (.agg #[.int .i64 p.a, .int .i64 p.b]) ∧ Nr p ∧ Src w' B ∧ Mut w w' [B]
set_option maxRecDepth 100000 in
set_option maxHeartbeats 8000000 in
theorem drawUnit_any (B : Nat) (w : World) (hS : Src w B) :
    Calls Try.prog 94 #[.pointer (some ⟨B, 0, none⟩)] w (DrwU B w) := by
  have hBw : B < w.heap.size := hS.lt
  obtain ⟨T, hT⟩ : ∃ T, T = w.heap.size := ⟨_, rfl⟩
  go_enter Try.func94, Try.ntmps94
  go_wp2_with fail
  generalize hW : w.alloc _ = W0
  obtain ⟨E0, z0, b0⟩ := boxes1 hW
  clear hW
  rw [← hT] at b0 ⊢
  have hP : Hid (Blk W0 T [.int .i64 0, .int .i64 0] 26) := b0
  have S := hS.ext E0
  have M := E0.mut [B]
  have hBT : B < T := by omega
  have hTw : w.heap.size ≤ T := by omega
  replace hT := hid hT
  replace z0 := hid z0
  clear b0 E0 hS
  refine (next_any B 24 _ S (by omega) (by omega)).mono ?_
  rintro e w1 ⟨t, rfl, t0, t1, S2, M2⟩
  replace M := M.same M2
  replace S := S2
  replace hP := hid (hP.out.mut M2 (by simp; omega))
  clear M2 S2
  by_cases ht : t = 0
  · subst ht
    go_wp2_with fail
    refine (next_any B 84 _ S (by omega) (by omega)).mono ?_
    rintro e w2 ⟨x, rfl, x0, x1, S2, M2⟩
    replace M := M.same M2
    replace S := S2
    replace hP := hid (hP.out.mut M2 (by simp; omega))
    clear M2 S2
    go_wp2_with fail
    refine (next_any B 84 _ S (by omega) (by omega)).mono ?_
    rintro e w3 ⟨y, rfl, y0, y1, S2, M2⟩
    replace M := M.same M2
    replace S := S2
    replace hP := hid (hP.out.mut M2 (by simp; omega))
    clear M2 S2
    have k0 := hP.out.cells 0
    have k1 := hP.out.cells 1
    have kf := hP.out.free
    simp only [List.getElem?_cons_zero, List.getElem?_cons_succ] at k0 k1
    have hPl := hP.out.lt
    go_wp2_with fail
    refine bodyPost_ret (v := .agg #[.int .i64 (x - 42), .int .i64 (y - 42)]) (by simp [results, Try.results94, go_sem, k0, k1]) rfl ⟨⟨x - 42, y - 42⟩, rfl, by unfold Nr; simp only; omega, (S.young hBT 0 _).young hBT 1 _, (M.setYoung hTw _).setYoung hTw _⟩
  · have htb : (t == 0) = false := by simpa using ht
    clear ht
    go_wp2_with fail
    refine (next_any B 26 _ S (by omega) (by omega)).mono ?_
    rintro e w2 ⟨x, rfl, x0, x1, S2, M2⟩
    replace M := M.same M2
    replace S := S2
    replace hP := hid (hP.out.mut M2 (by simp; omega))
    clear M2 S2
    go_wp2_with fail
    refine (next_any B 26 _ S (by omega) (by omega)).mono ?_
    rintro e w3 ⟨y, rfl, y0, y1, S2, M2⟩
    replace M := M.same M2
    replace S := S2
    replace hP := hid (hP.out.mut M2 (by simp; omega))
    clear M2 S2
    have k0 := hP.out.cells 0
    have k1 := hP.out.cells 1
    have kf := hP.out.free
    simp only [List.getElem?_cons_zero, List.getElem?_cons_succ] at k0 k1
    have hPl := hP.out.lt
    go_wp2_with fail
    refine bodyPost_ret (v := .agg #[.int .i64 (x - 13), .int .i64 (y - 13)]) (by simp [results, Try.results94, go_sem, k0, k1]) rfl ⟨⟨x - 13, y - 13⟩, rfl, by unfold Nr; simp only; omega, (S.young hBT 0 _).young hBT 1 _, (M.setYoung hTw _).setYoung hTw _⟩
theorem set_ne {w : World} {V T j k : Nat} {v : Value} (h : V ≠ T) : (w.setCell ⟨T, j, none⟩ v).cell? ⟨V, k, none⟩ = w.cell? ⟨V, k, none⟩ := World.cell?_of_block (w := w) (a := ⟨V, k, none⟩) (Below.heap_setCell _ _ _ _ (fun e => h e))
theorem keep2 {w : World} {V T : Nat} {x y : Value} (a b : Value) (i j : Nat) (h : V ≠ T) (hx : w.cell? ⟨V, 0, none⟩ = some x) (hy : w.cell? ⟨V, 1, none⟩ = some y) : ((w.setCell ⟨T, i, none⟩ a).setCell ⟨T, j, none⟩ b).cell? ⟨V, 0, none⟩ = some x ∧ ((w.setCell ⟨T, i, none⟩ a).setCell ⟨T, j, none⟩ b).cell? ⟨V, 1, none⟩ = some y := by
  rw [set_ne h, set_ne h, set_ne h, set_ne h]; exact ⟨hx, hy⟩
theorem keep4 {w : World} {V T U : Nat} {x y : Value} (a b c d : Value) (i j : Nat) (h : V ≠ T) (h2 : V ≠ U) (hx : w.cell? ⟨V, 0, none⟩ = some x) (hy : w.cell? ⟨V, 1, none⟩ = some y) : ((((w.setCell ⟨T, i, none⟩ a).setCell ⟨T, j, none⟩ b).setCell ⟨U, i, none⟩ c).setCell ⟨U, j, none⟩ d).cell? ⟨V, 0, none⟩ = some x ∧ ((((w.setCell ⟨T, i, none⟩ a).setCell ⟨T, j, none⟩ b).setCell ⟨U, i, none⟩ c).setCell ⟨U, j, none⟩ d).cell? ⟨V, 1, none⟩ = some y := by
  rw [set_ne h2, set_ne h2, set_ne h2, set_ne h2]; exact keep2 _ _ _ _ h hx hy
/-- What a draw of rectangles and two unit cells leaves. -/
def DrwR (w : World) (e : Ending) (w' : World) : Prop := ∃ (q : Option Addr) (n c : Nat) (l : List Q4) (a b : Q2), e = .returned (.tuple #[.slice q n c, .agg #[.int .i64 a.a, .int .i64 a.b], .agg #[.int .i64 b.a, .int .i64 b.b]]) ∧ SlT enc4 4 w' q n l ∧ n ≤ 3201 ∧ (∀ x, q = some x → w.heap.size ≤ x.block) ∧ Nr a ∧ Nr b ∧ Ext w w'
set_option maxRecDepth 100000 in
set_option maxHeartbeats 8000000 in
theorem drawRouteDistance_any (q : Option Addr) (n c : Nat) (l : List Int) (w : World) (h : SlT encU 1 w q n l) (hu : ∀ x ∈ l, 0 ≤ x ∧ x ≤ 255) (hn : n ≤ 1048576) :
    Calls Try.prog 37 #[.slice q n c] w (DrwR w) := by
  have hu := hid hu
  obtain ⟨T, hT⟩ : ∃ T, T = w.heap.size := ⟨_, rfl⟩
  obtain ⟨U, hU⟩ : ∃ U, U = w.heap.size + 1 := ⟨_, rfl⟩
  go_enter Try.func37, Try.ntmps37
  go_wp2_with fail
  generalize hW : (w.alloc _).alloc _ = W0
  obtain ⟨E0, z0, bT, bU⟩ := boxes2 hW
  clear hW
  rw [← hU] at bU ⊢
  rw [← hT] at bT ⊢
  have hP : Hid (Blk W0 T [.int .i64 0, .int .i64 0] 26) := bT
  have hQ : Hid (Blk W0 U [.int .i64 0, .int .i64 0] 26) := bU
  have hTU : T < U := by omega
  have hzU : U < W0.heap.size := hQ.out.lt
  have hTw : w.heap.size ≤ T := by omega
  have hUw : w.heap.size ≤ U := by omega
  clear bT bU
  replace z0 := hid z0
  replace hT := hid hT
  replace hU := hid hU
  refine (from_any q n c l _ (h.ext E0) hu.out hn).mono ?_
  rintro e w1 ⟨B, rfl, hB, S, E1⟩
  have hUB : U < B := by omega
  replace hP := hid (hP.out.ext E1)
  replace hQ := hid (hQ.out.ext E1)
  have E := hid (E0.trans E1)
  have hwB : w.heap.size ≤ B := by omega
  clear E0 E1
  go_wp2_with fail
  refine (drawBlocked_any B _ S).mono ?_
  rintro e w2 ⟨q2, n2, c2, l2, rfl, s2, hn2, hq2, S2, M2⟩
  replace hP := hid (hP.out.mut M2 (by simp; omega))
  replace hQ := hid (hQ.out.mut M2 (by simp; omega))
  replace E := hid (E.out.then M2 (by simp; omega))
  have hBq : Hid (∀ a, q2 = some a → B < a.block) := fun a ha => Nat.lt_of_lt_of_le S.lt (hq2 a ha)
  clear M2 hq2 S
  replace s2 := hid s2
  go_wp2_with fail
  refine (drawUnit_any B _ S2).mono ?_
  rintro e w3 ⟨p1, rfl, hp1, S3, M3⟩
  replace hP := hid (hP.out.mut M3 (by simp; omega))
  replace hQ := hid (hQ.out.mut M3 (by simp; omega))
  replace E := hid (E.out.then M3 (by simp; omega))
  replace s2 := hid (s2.out.mut M3 (fun a ha hh => by simp at hh; have := hBq.out a ha; omega))
  clear M3 S2
  go_wp2_with fail
  obtain ⟨V, hV⟩ : ∃ V, V = w3.heap.size := ⟨_, rfl⟩
  have hBV : B < V := by rw [hV]; exact S3.lt
  rw [← hV]
  have hR : Hid (Blk (w3.alloc (.cells #[.int .i64 p1.a, .int .i64 p1.b] 26)) V [.int .i64 p1.a, .int .i64 p1.b] 26) := by rw [hV]; exact Blk.new _ [_, _] _
  have S4 := S3.ext ((Ext.refl _).alloc (.cells #[.int .i64 p1.a, .int .i64 p1.b] 26))
  have hP4 := hid (hP.out.alloc (.cells #[.int .i64 p1.a, .int .i64 p1.b] 26))
  have hQ4 := hid (hQ.out.alloc (.cells #[.int .i64 p1.a, .int .i64 p1.b] 26))
  have E4 := hid (E.out.alloc (.cells #[.int .i64 p1.a, .int .i64 p1.b] 26))
  have s4 := hid (s2.out.ext ((Ext.refl _).alloc (.cells #[.int .i64 p1.a, .int .i64 p1.b] 26)))
  have r0 := hR.out.cells 0
  have r1 := hR.out.cells 1
  simp only [List.getElem?_cons_zero, List.getElem?_cons_succ] at r0 r1
  have hVl := hR.out.lt
  replace hV := hid hV
  clear hP hQ E s2 S3
  have hTV : T < V := by omega
  have hVT : V ≠ T := by omega
  have hVU : V ≠ U := by omega
  have hUV : U < V := by omega
  go_region_held3 (fun W => W.cell? ⟨V, 0, none⟩ = some (.int .i64 p1.a) ∧ W.cell? ⟨V, 1, none⟩ = some (.int .i64 p1.b))
    (first | exact ⟨r0, r1⟩ | exact ⟨y0, y1⟩ | exact keep2 _ _ _ _ hVT y0 y1 | exact keep4 _ _ _ _ _ _ hVT hVU y0 y1)
    (first
      | (go_at_call 94; refine (drawUnit_any B _ (S4.ext (Ext.refl _).drew)).mono ?_; rintro e w5 ⟨p2, rfl, hp2, S5, M5⟩; have y0 := (M5.cellk (b := V) (by simp; omega) hVl 0).trans r0; have y1 := (M5.cellk (b := V) (by simp; omega) hVl 1).trans r1; have hP5 := hid ((hP4.out.ext (Ext.refl _).drew).mut M5 (by simp; omega)); have hQ5 := hid ((hQ4.out.ext (Ext.refl _).drew).mut M5 (by simp; omega)); have t0 := hP5.out.cells 0; have t1 := hP5.out.cells 1; have u0 := hQ5.out.cells 0; have u1 := hQ5.out.cells 1; simp only [List.getElem?_cons_zero, List.getElem?_cons_succ] at t0 t1 u0 u1; have tf := hP5.out.free; have uf := hQ5.out.free; have hVl5 : V < w5.heap.size := Nat.lt_of_lt_of_le hVl M5.size; have hTl := hP5.out.lt; have hUl := hQ5.out.lt))
  have s5 := hid (((((s4.out.ext (Ext.refl _).drew).mut M5 (fun a ha hh => by simp at hh; have := hBq.out a ha; omega)).other (B := T) 0 (.int .i64 p1.a) (fun a ha => by have := hBq.out a ha; omega)).other (B := T) 1 (.int .i64 p1.b) (fun a ha => by have := hBq.out a ha; omega)).other (B := U) 0 (.int .i64 p2.a) (fun a ha => by have := hBq.out a ha; omega) |>.other (B := U) 1 (.int .i64 p2.b) (fun a ha => by have := hBq.out a ha; omega))
  have E5 := hid ((((E4.out.drew.then M5 (by simp; omega)).setCell (p := ⟨T, 0, none⟩) hTw (.int .i64 p1.a)).setCell (p := ⟨T, 1, none⟩) hTw (.int .i64 p1.b)).setCell (p := ⟨U, 0, none⟩) hUw (.int .i64 p2.a) |>.setCell (p := ⟨U, 1, none⟩) hUw (.int .i64 p2.b))
  clear hP4 hQ4 E4 s4 S4 S5 M5 hP5 hQ5 r0 r1 y0 y1
  go_wp2_with fail
  refine bodyPost_ret (v := .tuple #[.slice q2 n2 c2, .agg #[.int .i64 p1.a, .int .i64 p1.b], .agg #[.int .i64 p2.a, .int .i64 p2.b]]) (by simp [results, Try.results37, go_sem, t0, t1, u0, u1]) rfl ⟨q2, n2, c2, l2, p1, p2, rfl, s5.out, hn2, fun a ha => by have := hBq.out a ha; omega, hp1, hp2, E5.out⟩
set_option maxHeartbeats 400000 in
theorem big_any (q : Option Addr) (n c : Nat) (w : World) :
    Calls Try.prog 15 #[.slice q n c] w fun e w' => e = .returned (.bool (decide (4096 < (n : Int)))) ∧ w = w' := by
  by_cases h : 4096 < (n : Int)
  · go_enter Try.func15, Try.ntmps15
    go_wp2
    go_ret
    exact ⟨ret_bool (by simp [h]), rfl⟩
  · go_enter Try.func15, Try.ntmps15
    go_wp2
    go_ret
    exact ⟨ret_bool (by simp [h]), rfl⟩
end Go.Proofs.Ythdilndfcdpeiaa
