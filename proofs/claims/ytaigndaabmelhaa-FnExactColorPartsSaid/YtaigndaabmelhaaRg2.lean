/- Contracts of cells.put and cellsOf. Condition: valid rectangles, at most 2^20 of them. -/
import Derived.Test.YtaigndaabmelhaaRg1
namespace Go.Proofs.Ytaigndaabmelhaa
open Go.RowKit

theorem zeroCells : Try.zeroCells109 = (gcells gnone).toArray := by
  have h : Try.zeroCells109 = (List.replicate 6400 (Value.bool false)).toArray := by kernel_rfl
  rw [h, gcells_none]
/-- What put leaves. -/
def Put (B : Nat) (g : Grid) (r : Q4) (w : World) (e : Ending) (w' : World) : Prop := e = .returned (.tuple #[]) ∧ Blk w' B (gcells (gmk fun x y => gh g x y || inR r x y)) 109 ∧ Mut w w' [B]
theorem gcells_gmk_gh (g : Grid) : gcells g = gcells (gmk fun x y => gh g x y) := gcells_gh fun x y h => by rw [gh_gmk _ h]
/-- A rectangle not too far from the chip. -/
def Near (r : Q4) : Prop := (-1000 ≤ r.a ∧ r.a ≤ 1000) ∧ (-1000 ≤ r.b ∧ r.b ≤ 1000) ∧ (-1000 ≤ r.c ∧ r.c ≤ 1000) ∧ (-1000 ≤ r.d ∧ r.d ≤ 1000)
theorem vR_near {r : Q4} (h : vR r = true) : Near r := by rw [vR_iff] at h; unfold Near; omega
/-- What holds while put goes on. -/
def Putting (B : Nat) (g : Grid) (r : Q4) (w : World) (u v : Int) (wr : World) : Prop := Blk wr B (gcells (gmk (part (gh g) r u v))) 109 ∧ Mut w wr [B] ∧ Blk wr w.heap.size [.int .i64 r.a, .int .i64 r.b, .int .i64 r.c, .int .i64 r.d] 50
theorem Putting.start {B : Nat} {g : Grid} {r : Q4} {w : World} {v : Int} (hb : Blk w B (gcells g) 109) (h0 : v ≤ r.b ∨ v ≤ -40) : Putting B g r w (-2000) v (w.alloc (.cells #[.int .i64 r.a, .int .i64 r.b, .int .i64 r.c, .int .i64 r.d] 50)) := by
  refine ⟨?_, ((Ext.refl _).alloc _).mut _, Blk.new _ [_, _, _, _] _⟩
  rw [← part_start (u := -2000) (v := v) (gh g) r, ← gcells_gmk_gh]
  · exact hb.alloc _
  · intro x y hc hr
    rw [onC_iff] at hc
    rw [inR_iff] at hr
    omega
theorem Putting.row {B : Nat} {g : Grid} {r : Q4} {w wr : World} {u v : Int} (h : Putting B g r w u v wr) (hu : r.c ≤ u ∨ 40 ≤ u) : Putting B g r w (-2000) (v + 1) wr := by
  refine ⟨?_, h.2⟩
  rw [← part_row (u := u) (u' := -2000) (v := v) (gh g) r]
  · exact h.1
  · intro x hc hr
    rw [onC_iff] at hc
    rw [inR_iff] at hr
    omega
  · intro x hc hr
    rw [onC_iff] at hc
    omega
theorem Putting.go {B : Nat} {g : Grid} {r : Q4} {w wr : World} {u v : Int} (h : Putting B g r w (-2000) v wr) (hu : u ≤ r.a ∨ u ≤ -40) : Putting B g r w u v wr := by
  refine ⟨?_, h.2⟩
  have h1 := h.1
  rw [gmk_ext (f := part (gh g) r (-2000) v) (f' := part (gh g) r u v)] at h1
  · exact h1
  · intro x y hc
    rw [part, part]
    by_cases hr : inR r x y = true
    · rw [hr, Bool.true_and, Bool.true_and]
      rw [onC_iff] at hc
      rw [inR_iff] at hr
      rw [show decide (x < -2000) = false by simp; omega, show decide (x < u) = false by simp; omega]
    · rw [Bool.not_eq_true] at hr; rw [hr]; rfl
theorem Putting.cell {B : Nat} {g : Grid} {r : Q4} {w wr : World} {u v : Int} (h : Putting B g r w u v wr) (hB : B < w.heap.size) (hc : onC u v = true) (hr : inR r u v = true) : Putting B g r w (u + 1) v (wr.setCell ⟨B, atG u v, none⟩ (.bool true)) := by
  obtain ⟨h1, h2, h3⟩ := h
  refine ⟨?_, h2.setCell (p := ⟨B, atG u v, none⟩) (by simp) _, h3.other _ _ (by omega)⟩
  have := h1.set (atG u v) (.bool true)
  rwa [gcells_set, part_set _ _ hc hr] at this
theorem Putting.done {B : Nat} {g : Grid} {r : Q4} {w wr : World} {v : Int} (h : Putting B g r w (-2000) v wr) (hv : r.d ≤ v ∨ 40 ≤ v) : Put B g r w (.returned (.tuple #[])) wr := by
  refine ⟨rfl, ?_, h.2.1⟩
  have h1 := h.1
  rwa [part_end (gh g) r] at h1
  intro x y hc hr
  rw [onC_iff] at hc
  rw [inR_iff] at hr
  omega
set_option maxRecDepth 100000 in
set_option maxHeartbeats 4000000 in
theorem put_any (B : Nat) (g : Grid) (r : Q4) (w : World) (hb : Blk w B (gcells g) 109) (hv : Near r) :
    Calls Try.prog 99 #[.pointer (some ⟨B, 0, none⟩), .agg #[.int .i64 r.a, .int .i64 r.b, .int .i64 r.c, .int .i64 r.d]] w (Put B g r w) := by
  obtain ⟨⟨a0, a1⟩, ⟨b0, b1⟩, ⟨c0, c1⟩, d0, d1⟩ := hv
  have hBl := hb.lt
  go_enter Try.func99, Try.ntmps99
  go_wp2
  all_goals
    go_loopw [4] (fun i wr => ∃ y : Int, i = .int .i64 y ∧ r.b ≤ y ∧ -40 ≤ y ∧ y ≤ 1000 ∧ Putting B g r w (-2000) y wr) (fun i _ => (1100 - intOf i).toNat)
    case atStart => exact ⟨_, rfl, by omega, by omega, by omega, Putting.start hb (by omega)⟩
    case round =>
      obtain ⟨y, rfl, hy0, hy1, hy2, hP⟩ := hrel
      have g0 := hP.2.2.cells
      have k0 := g0 0
      have k1 := g0 1
      have k2 := g0 2
      have k3 := g0 3
      simp only [List.getElem?_cons_zero, List.getElem?_cons_succ] at k0 k1 k2 k3
      clear g0
      by_cases hy : y < 40 ∧ y < r.d
      · obtain ⟨hy, hyd⟩ := hy
        go_wp2
        all_goals
          go_loopw [5] (fun i wr => ∃ x : Int, i = .int .i64 x ∧ r.a ≤ x ∧ -40 ≤ x ∧ x ≤ 1000 ∧ Putting B g r w x y wr) (fun i _ => (1100 - intOf i).toNat)
          case atStart => exact ⟨_, rfl, by omega, by omega, by omega, hP.go (by omega)⟩
          case round =>
            clear hP k0 k1 k2 k3
            obtain ⟨x, rfl, hx0, hx1, hx2, hP⟩ := hrel
            have g0 := hP.2.2.cells
            have k0 := g0 0
            have k1 := g0 1
            have k2 := g0 2
            have k3 := g0 3
            simp only [List.getElem?_cons_zero, List.getElem?_cons_succ] at k0 k1 k2 k3
            clear g0
            by_cases hx : x < 40 ∧ x < r.c
            · obtain ⟨hx, hxc⟩ := hx
              have hc : onC x y = true := by rw [onC_iff]; omega
              have hr : inR r x y = true := by rw [inR_iff]; omega
              have z0 := hP.1.cells (atG x y)
              rw [gcells_get _ (atG_lt hc)] at z0
              have fz := hP.1.free (atG x y)
              have hPn := hid (hP.cell hBl hc hr)
              have eat : (y + 40).toNat * 80 + (x + 40).toNat = atG x y := by rw [atG]; omega
              replace hc := hid hc
              replace hr := hid hr
              go_wp2
              all_goals
                go_roundw
                case rel => exact ⟨_, rfl, by omega, by omega, by omega, hPn.out⟩
                case measure => simp [intOf]; omega
            · have hP2 := hid (hP.row (by omega))
              go_wp2
              all_goals
                go_roundw
                case rel => exact ⟨_, rfl, by omega, by omega, by omega, hP2.out⟩
                case measure => simp [intOf]; omega
      · have hP2 := hid (hP.done (by omega))
        go_wp2
        all_goals
          go_end0
          exact hP2.out
end Go.Proofs.Ytaigndaabmelhaa
