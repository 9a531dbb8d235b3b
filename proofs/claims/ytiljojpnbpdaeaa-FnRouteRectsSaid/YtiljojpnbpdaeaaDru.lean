/- Contracts of l32DrawUnit, DrawRouteDistance, DrawShortestRoute, big. Condition: at most 2^20 bytes of code. -/
import Derived.Test.YtiljojpnbpdaeaaDrb
namespace Go.Proofs.Ytiljojpnbpdaeaa
open Go.RowKit

theorem vi_eq {k : IntKind} {a b : Int} (h : a = b) : Value.int k a = .int k b := by rw [h]
def Nr (p : Q2) : Prop := (-50 ≤ p.a ∧ p.a ≤ 50) ∧ (-50 ≤ p.b ∧ p.b ≤ 50)
/-- What a draw of a unit cell leaves. -/
def DrwU (B : Nat) (w : World) (e : Ending) (w' : World) : Prop := ∃ p : Q2, e = .returned (.agg #[.int .i64 p.a, .int .i64 p.b]) ∧ Nr p ∧ Src w' B ∧ Mut w w' [B]
set_option maxRecDepth 100000 in
set_option maxHeartbeats 8000000 in
theorem drawUnit_any (B : Nat) (w : World) (hS : Src w B) :
    Calls Try.prog 81 #[.pointer (some ⟨B, 0, none⟩)] w (DrwU B w) := by
  have hBw : B < w.heap.size := hS.lt
  obtain ⟨T, hT⟩ : ∃ T, T = w.heap.size := ⟨_, rfl⟩
  go_enter Try.func81, Try.ntmps81
  go_wp2_with fail
  generalize hW : w.alloc _ = W0
  obtain ⟨E0, z0, b0⟩ := boxes1 hW
  clear hW
  rw [← hT] at b0 ⊢
  have hP : Hid (Blk W0 T [.int .i64 0, .int .i64 0] 47) := b0
  have S := hS.ext E0
  have M := E0.mut [B]
  have hBT : B < T := by omega
  have hTw : w.heap.size ≤ T := by omega
  replace hT := hid hT
  replace z0 := hid z0
  clear b0 E0 hS
  refine (next_any B 24 _ S (by omega) (by omega)).mono ?_
  rintro e w1 ⟨t, rfl, t0, t1, S2, M2⟩
  replace M := M.same M2
  replace S := S2
  replace hP := hid (hP.out.mut M2 (by simp; omega))
  clear M2 S2
  by_cases ht : t = 0
  · subst ht
    go_wp2_with fail
    refine (next_any B 84 _ S (by omega) (by omega)).mono ?_
    rintro e w2 ⟨x, rfl, x0, x1, S2, M2⟩
    replace M := M.same M2
    replace S := S2
    replace hP := hid (hP.out.mut M2 (by simp; omega))
    clear M2 S2
    go_wp2_with fail
    refine (next_any B 84 _ S (by omega) (by omega)).mono ?_
    rintro e w3 ⟨y, rfl, y0, y1, S2, M2⟩
    replace M := M.same M2
    replace S := S2
    replace hP := hid (hP.out.mut M2 (by simp; omega))
    clear M2 S2
    have k0 := hP.out.cells 0
    have k1 := hP.out.cells 1
    have kf := hP.out.free
    simp only [List.getElem?_cons_zero, List.getElem?_cons_succ] at k0 k1
    have hPl := hP.out.lt
    go_wp2_with fail
    refine bodyPost_ret (v := .agg #[.int .i64 (x - 42), .int .i64 (y - 42)]) (by simp [results, Try.results81, go_sem, k0, k1]) rfl ⟨⟨x - 42, y - 42⟩, rfl, by unfold Nr; simp only; omega, (S.young hBT 0 _).young hBT 1 _, (M.setYoung hTw _).setYoung hTw _⟩
  · have htb : (t == 0) = false := by simpa using ht
    clear ht
    go_wp2_with fail
    refine (next_any B 26 _ S (by omega) (by omega)).mono ?_
    rintro e w2 ⟨x, rfl, x0, x1, S2, M2⟩
    replace M := M.same M2
    replace S := S2
    replace hP := hid (hP.out.mut M2 (by simp; omega))
    clear M2 S2
    go_wp2_with fail
    refine (next_any B 26 _ S (by omega) (by omega)).mono ?_
    rintro e w3 ⟨y, rfl, y0, y1, S2, M2⟩
    replace M := M.same M2
    replace S := S2
    replace hP := hid (hP.out.mut M2 (by simp; omega))
    clear M2 S2
    have k0 := hP.out.cells 0
    have k1 := hP.out.cells 1
    have kf := hP.out.free
    simp only [List.getElem?_cons_zero, List.getElem?_cons_succ] at k0 k1
    have hPl := hP.out.lt
    go_wp2_with fail
    refine bodyPost_ret (v := .agg #[.int .i64 (x - 13), .int .i64 (y - 13)]) (by simp [results, Try.results81, go_sem, k0, k1]) rfl ⟨⟨x - 13, y - 13⟩, rfl, by unfold Nr; simp only; omega, (S.young hBT 0 _).young hBT 1 _, (M.setYoung hTw _).setYoung hTw _⟩
theorem set_ne {w : World} {V T j k : Nat} {v : Value} (h : V ≠ T) : (w.setCell ⟨T, j, none⟩ v).cell? ⟨V, k, none⟩ = w.cell? ⟨V, k, none⟩ := World.cell?_of_block (w := w) (a := ⟨V, k, none⟩) (Below.heap_setCell _ _ _ _ (fun e => h e))
theorem keep2 {w : World} {V T : Nat} {x y : Value} (a b : Value) (i j : Nat) (h : V ≠ T) (hx : w.cell? ⟨V, 0, none⟩ = some x) (hy : w.cell? ⟨V, 1, none⟩ = some y) : ((w.setCell ⟨T, i, none⟩ a).setCell ⟨T, j, none⟩ b).cell? ⟨V, 0, none⟩ = some x ∧ ((w.setCell ⟨T, i, none⟩ a).setCell ⟨T, j, none⟩ b).cell? ⟨V, 1, none⟩ = some y := by
  rw [set_ne h, set_ne h, set_ne h, set_ne h]; exact ⟨hx, hy⟩
theorem keep4 {w : World} {V T U : Nat} {x y : Value} (a b c d : Value) (i j : Nat) (h : V ≠ T) (h2 : V ≠ U) (hx : w.cell? ⟨V, 0, none⟩ = some x) (hy : w.cell? ⟨V, 1, none⟩ = some y) : ((((w.setCell ⟨T, i, none⟩ a).setCell ⟨T, j, none⟩ b).setCell ⟨U, i, none⟩ c).setCell ⟨U, j, none⟩ d).cell? ⟨V, 0, none⟩ = some x ∧ ((((w.setCell ⟨T, i, none⟩ a).setCell ⟨T, j, none⟩ b).setCell ⟨U, i, none⟩ c).setCell ⟨U, j, none⟩ d).cell? ⟨V, 1, none⟩ = some y := by
  rw [set_ne h2, set_ne h2, set_ne h2, set_ne h2]; exact keep2 _ _ _ _ h hx hy
/-- What a draw of rectangles and two unit cells leaves. -/
def DrwR (w : World) (e : Ending) (w' : World) : Prop := ∃ (q : Option Addr) (n c : Nat) (l : List Q4) (a b : Q2), e = .returned (.tuple #[.slice q n c, .agg #[.int .i64 a.a, .int .i64 a.b], .agg #[.int .i64 b.a, .int .i64 b.b]]) ∧ SlT enc4 4 w' q n l ∧ n ≤ 3201 ∧ (∀ x, q = some x → w.heap.size ≤ x.block) ∧ Nr a ∧ Nr b ∧ Ext w w'
set_option maxHeartbeats 400000 in
theorem big_any (q : Option Addr) (n c : Nat) (w : World) :
    Calls Try.prog 16 #[.slice q n c] w fun e w' => e = .returned (.bool (decide (4096 < (n : Int)))) ∧ w = w' := by
  by_cases h : 4096 < (n : Int)
  · go_enter Try.func16, Try.ntmps16
    go_wp2
    go_ret
    exact ⟨ret_bool (by simp [h]), rfl⟩
  · go_enter Try.func16, Try.ntmps16
    go_wp2
    go_ret
    exact ⟨ret_bool (by simp [h]), rfl⟩
end Go.Proofs.Ytiljojpnbpdaeaa
