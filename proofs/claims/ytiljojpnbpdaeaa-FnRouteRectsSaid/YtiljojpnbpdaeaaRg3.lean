/- Contracts of the pure functions on points and rectangles (within, isUnitCell, IsValidRect, area, common, l03At and their reference twins). No condition. -/
import Derived.Test.YtiljojpnbpdaeaaWor
import Derived.Test.YtiljojpnbpdaeaaGr2
import Derived.Maps.Own
import Derived.Maps.OwnOps
import Derived.Maps.OwnSet
import Derived.DeepKeys4
namespace Go.Proofs.Ytiljojpnbpdaeaa
open Go.RowKit

def wit (v a b : Int) : Bool := decide (a ≤ v) && decide (v ≤ b)
theorem wit_iff {v a b : Int} : wit v a b = true ↔ a ≤ v ∧ v ≤ b := by simp [wit]
theorem onC_wit (x y : Int) : onC x y = (wit x (-40) 39 && wit y (-40) 39) := by rw [Bool.eq_iff_iff, onC_iff, Bool.and_eq_true, wit_iff, wit_iff]
set_option maxHeartbeats 400000 in
theorem within_any (v a b : Int) (w : World) :
    Calls Try.prog 46 #[.int .i64 v, .int .i64 a, .int .i64 b] w fun e w' => e = .returned (.bool (wit v a b)) ∧ w = w' := by
  by_cases h : a ≤ v
  · go_enter Try.func46, Try.ntmps46
    go_wp2
    go_ret
    exact ⟨ret_bool (by simp [wit, h]), rfl⟩
  · go_enter Try.func46, Try.ntmps46
    go_wp2
    go_ret
    exact ⟨ret_bool (by simp [wit]; omega), rfl⟩
set_option maxHeartbeats 400000 in
theorem l09In_any (v a b : Int) (w : World) :
    Calls Try.prog 71 #[.int .i64 v, .int .i64 a, .int .i64 b] w fun e w' => e = .returned (.bool (wit v a b)) ∧ w = w' := by
  by_cases h : a ≤ v
  · go_enter Try.func71, Try.ntmps71
    go_wp2
    go_ret
    exact ⟨ret_bool (by simp [wit, h]), rfl⟩
  · go_enter Try.func71, Try.ntmps71
    go_wp2
    go_ret
    exact ⟨ret_bool (by simp [wit]; omega), rfl⟩
set_option maxHeartbeats 400000 in
theorem l01In_any (v a b : Int) (w : World) :
    Calls Try.prog 143 #[.int .i64 v, .int .i64 a, .int .i64 b] w fun e w' => e = .returned (.bool (wit v a b)) ∧ w = w' := by
  by_cases h : a ≤ v
  · go_enter Try.func143, Try.ntmps143
    go_wp2
    go_ret
    exact ⟨ret_bool (by simp [wit, h]), rfl⟩
  · go_enter Try.func143, Try.ntmps143
    go_wp2
    go_ret
    exact ⟨ret_bool (by simp [wit]; omega), rfl⟩
set_option maxHeartbeats 400000 in
theorem isUnitCell_any (x y : Int) (w : World) :
    Calls Try.prog 84 #[.agg #[.int .i64 x, .int .i64 y]] w fun e w' => e = .returned (.bool (onC x y)) ∧ Ext w w' := by
  have hr := hid (onC_wit x y)
  cases hx : wit x (-40) 39
  all_goals
    go_enter Try.func84, Try.ntmps84
    go_wp2_with (go_at_call 46; refine (within_any _ _ _ _).mono ?_; rintro e w' ⟨rfl, rfl⟩)
    go_ret
    exact ⟨ret_bool (by rw [hr.out, hx]; simp), (Ext.refl _).alloc _⟩
set_option maxHeartbeats 400000 in
theorem l09Unit_any (x y : Int) (w : World) :
    Calls Try.prog 53 #[.agg #[.int .i64 x, .int .i64 y]] w fun e w' => e = .returned (.bool (onC x y)) ∧ Ext w w' := by
  have hr := hid (onC_wit x y)
  cases hx : wit x (-40) 39
  all_goals
    go_enter Try.func53, Try.ntmps53
    go_wp2_with (go_at_call 71; refine (l09In_any _ _ _ _).mono ?_; rintro e w' ⟨rfl, rfl⟩)
    go_ret
    exact ⟨ret_bool (by rw [hr.out, hx]; simp), (Ext.refl _).alloc _⟩
set_option maxHeartbeats 4000000 in
theorem IsValidRect_any (r : Q4) (w : World) :
    Calls Try.prog 92 #[.agg #[.int .i64 r.a, .int .i64 r.b, .int .i64 r.c, .int .i64 r.d]] w fun e w' => e = .returned (.bool (vR r)) ∧ Ext w w' := by
  go_enter Try.func92, Try.ntmps92
  go_wp2
  all_goals
    go_ret
    exact ⟨ret_bool (by simp [vR, *]; try omega), (Ext.refl _).alloc _⟩
set_option maxHeartbeats 4000000 in
theorem specIsValidRect_any (r : Q4) (w : World) :
    Calls Try.prog 120 #[.agg #[.int .i64 r.a, .int .i64 r.b, .int .i64 r.c, .int .i64 r.d]] w fun e w' => e = .returned (.bool (vR r)) ∧ Ext w w' := by
  go_enter Try.func120, Try.ntmps120
  go_wp2
  all_goals
    go_ret
    exact ⟨ret_bool (by simp [vR, *]; try omega), (Ext.refl _).alloc _⟩
set_option maxHeartbeats 400000 in
theorem l03At_any (x y : Int) (w : World) (h : onC x y = true) :
    Calls Try.prog 54 #[.int .i64 x, .int .i64 y] w fun e w' => e = .returned (.int .i64 (atG x y)) ∧ w = w' := by
  rw [onC_iff] at h
  obtain ⟨⟨x0, x1⟩, y0, y1⟩ := h
  have hr : Hid ((y + 40) * 80 + x + 40 = (atG x y : Int)) := by show _ = _; rw [atG]; omega
  go_enter Try.func54, Try.ntmps54
  go_wp2
  go_ret
  exact ⟨ret_int hr.out, rfl⟩
end Go.Proofs.Ytiljojpnbpdaeaa
/- Points as keys of maps. No condition. -/
namespace Go.Proofs.Ytiljojpnbpdaeaa
open Go.RowKit Go.Maps

theorem laidP : laidOutB Try.prog = true := by kernel_rfl
theorem rowP : (47 : TypeId) < Try.prog.types.size := of_decide_eq_true (by kernel_rfl)
theorem kindP : Try.prog.keyTypeAt 2 47 = true := by kernel_rfl
theorem lawP : Keyed Try.prog 47 := Keyed.of_law (deep_law_laid laidP (m := 2) (of_decide_eq_true (by kernel_rfl)) rowP kindP (by kernel_rfl))
def V2 (p : Q2) : Value := .agg #[.int .i64 p.a, .int .i64 p.b]
def kP (p : Q2) : Lit := .string (keyBytes [.int .i64 p.a, .int .i64 p.b])
def okP (p : Q2) : Prop := (Lit.int .i64 p.a).wf = true ∧ (Lit.int .i64 p.b).wf = true
theorem keyP {p : Q2} (h : okP p) : keyOf Try.prog 47 (V2 p) = some (kP p) := by
  have hk : Try.prog.keyType 47 = true := by kernel_rfl
  have hc : Try.prog.cellsOf 47 = 2 := by kernel_rfl
  have hc1 : Try.prog.cellsOf 2 = 1 := by kernel_rfl
  rw [keyOf, Try.underlying47]
  have hz0 : 0 < Try.prog.types.size := of_decide_eq_true (by kernel_rfl)
  have hz : Try.prog.types.size = (Try.prog.types.size - 1) + 1 := by omega
  simp only [hk, V2, Value.formed, Try.underlying47, hc, Value.cells]
  rw [hz]
  unfold Program.keyLits
  simp only [Try.underlying47, hc]
  unfold Program.keyLits
  simp [Try.underlying2, hc1, h.1, h.2, kP]
end Go.Proofs.Ytiljojpnbpdaeaa
/- Contracts of cells.put and cellsOf. Condition: valid rectangles, at most 2^20 of them. -/
namespace Go.Proofs.Ytiljojpnbpdaeaa
open Go.RowKit

theorem zeroCells : Try.zeroCells140 = (gcells gnone).toArray := by
  have h : Try.zeroCells140 = (List.replicate 6400 (Value.bool false)).toArray := by kernel_rfl
  rw [h, gcells_none]
/-- What put leaves. -/
def Put (B : Nat) (g : Grid) (r : Q4) (w : World) (e : Ending) (w' : World) : Prop := e = .returned (.tuple #[]) ∧ Blk w' B (gcells (gmk fun x y => gh g x y || inR r x y)) 140 ∧ Mut w w' [B]
theorem gcells_gmk_gh (g : Grid) : gcells g = gcells (gmk fun x y => gh g x y) := gcells_gh fun x y h => by rw [gh_gmk _ h]
/-- A rectangle not too far from the chip. -/
def Near (r : Q4) : Prop := (-1000 ≤ r.a ∧ r.a ≤ 1000) ∧ (-1000 ≤ r.b ∧ r.b ≤ 1000) ∧ (-1000 ≤ r.c ∧ r.c ≤ 1000) ∧ (-1000 ≤ r.d ∧ r.d ≤ 1000)
theorem vR_near {r : Q4} (h : vR r = true) : Near r := by rw [vR_iff] at h; unfold Near; omega
/-- What holds while put goes on. -/
def Putting (B : Nat) (g : Grid) (r : Q4) (w : World) (u v : Int) (wr : World) : Prop := Blk wr B (gcells (gmk (part (gh g) r u v))) 140 ∧ Mut w wr [B] ∧ Blk wr w.heap.size [.int .i64 r.a, .int .i64 r.b, .int .i64 r.c, .int .i64 r.d] 49
theorem Putting.start {B : Nat} {g : Grid} {r : Q4} {w : World} {v : Int} (hb : Blk w B (gcells g) 140) (h0 : v ≤ r.b ∨ v ≤ -40) : Putting B g r w (-2000) v (w.alloc (.cells #[.int .i64 r.a, .int .i64 r.b, .int .i64 r.c, .int .i64 r.d] 49)) := by
  refine ⟨?_, ((Ext.refl _).alloc _).mut _, Blk.new _ [_, _, _, _] _⟩
  rw [← part_start (u := -2000) (v := v) (gh g) r, ← gcells_gmk_gh]
  · exact hb.alloc _
  · intro x y hc hr
    rw [onC_iff] at hc
    rw [inR_iff] at hr
    omega
theorem Putting.row {B : Nat} {g : Grid} {r : Q4} {w wr : World} {u v : Int} (h : Putting B g r w u v wr) (hu : r.c ≤ u ∨ 40 ≤ u) : Putting B g r w (-2000) (v + 1) wr := by
  refine ⟨?_, h.2⟩
  rw [← part_row (u := u) (u' := -2000) (v := v) (gh g) r]
  · exact h.1
  · intro x hc hr
    rw [onC_iff] at hc
    rw [inR_iff] at hr
    omega
  · intro x hc hr
    rw [onC_iff] at hc
    omega
theorem Putting.go {B : Nat} {g : Grid} {r : Q4} {w wr : World} {u v : Int} (h : Putting B g r w (-2000) v wr) (hu : u ≤ r.a ∨ u ≤ -40) : Putting B g r w u v wr := by
  refine ⟨?_, h.2⟩
  have h1 := h.1
  rw [gmk_ext (f := part (gh g) r (-2000) v) (f' := part (gh g) r u v)] at h1
  · exact h1
  · intro x y hc
    rw [part, part]
    by_cases hr : inR r x y = true
    · rw [hr, Bool.true_and, Bool.true_and]
      rw [onC_iff] at hc
      rw [inR_iff] at hr
      rw [show decide (x < -2000) = false by simp; omega, show decide (x < u) = false by simp; omega]
    · rw [Bool.not_eq_true] at hr; rw [hr]; rfl
theorem Putting.cell {B : Nat} {g : Grid} {r : Q4} {w wr : World} {u v : Int} (h : Putting B g r w u v wr) (hB : B < w.heap.size) (hc : onC u v = true) (hr : inR r u v = true) : Putting B g r w (u + 1) v (wr.setCell ⟨B, atG u v, none⟩ (.bool true)) := by
  obtain ⟨h1, h2, h3⟩ := h
  refine ⟨?_, h2.setCell (p := ⟨B, atG u v, none⟩) (by simp) _, h3.other _ _ (by omega)⟩
  have := h1.set (atG u v) (.bool true)
  rwa [gcells_set, part_set _ _ hc hr] at this
theorem Putting.done {B : Nat} {g : Grid} {r : Q4} {w wr : World} {v : Int} (h : Putting B g r w (-2000) v wr) (hv : r.d ≤ v ∨ 40 ≤ v) : Put B g r w (.returned (.tuple #[])) wr := by
  refine ⟨rfl, ?_, h.2.1⟩
  have h1 := h.1
  rwa [part_end (gh g) r] at h1
  intro x y hc hr
  rw [onC_iff] at hc
  rw [inR_iff] at hr
  omega
set_option maxRecDepth 100000 in
set_option maxHeartbeats 4000000 in
theorem put_any (B : Nat) (g : Grid) (r : Q4) (w : World) (hb : Blk w B (gcells g) 140) (hv : Near r) :
    Calls Try.prog 93 #[.pointer (some ⟨B, 0, none⟩), .agg #[.int .i64 r.a, .int .i64 r.b, .int .i64 r.c, .int .i64 r.d]] w (Put B g r w) := by
  obtain ⟨⟨a0, a1⟩, ⟨b0, b1⟩, ⟨c0, c1⟩, d0, d1⟩ := hv
  have hBl := hb.lt
  go_enter Try.func93, Try.ntmps93
  go_wp2
  all_goals
    go_loopw [4] (fun i wr => ∃ y : Int, i = .int .i64 y ∧ r.b ≤ y ∧ -40 ≤ y ∧ y ≤ 1000 ∧ Putting B g r w (-2000) y wr) (fun i _ => (1100 - intOf i).toNat)
    case atStart => exact ⟨_, rfl, by omega, by omega, by omega, Putting.start hb (by omega)⟩
    case round =>
      obtain ⟨y, rfl, hy0, hy1, hy2, hP⟩ := hrel
      have g0 := hP.2.2.cells
      have k0 := g0 0
      have k1 := g0 1
      have k2 := g0 2
      have k3 := g0 3
      simp only [List.getElem?_cons_zero, List.getElem?_cons_succ] at k0 k1 k2 k3
      clear g0
      by_cases hy : y < 40 ∧ y < r.d
      · obtain ⟨hy, hyd⟩ := hy
        go_wp2
        all_goals
          go_loopw [5] (fun i wr => ∃ x : Int, i = .int .i64 x ∧ r.a ≤ x ∧ -40 ≤ x ∧ x ≤ 1000 ∧ Putting B g r w x y wr) (fun i _ => (1100 - intOf i).toNat)
          case atStart => exact ⟨_, rfl, by omega, by omega, by omega, hP.go (by omega)⟩
          case round =>
            clear hP k0 k1 k2 k3
            obtain ⟨x, rfl, hx0, hx1, hx2, hP⟩ := hrel
            have g0 := hP.2.2.cells
            have k0 := g0 0
            have k1 := g0 1
            have k2 := g0 2
            have k3 := g0 3
            simp only [List.getElem?_cons_zero, List.getElem?_cons_succ] at k0 k1 k2 k3
            clear g0
            by_cases hx : x < 40 ∧ x < r.c
            · obtain ⟨hx, hxc⟩ := hx
              have hc : onC x y = true := by rw [onC_iff]; omega
              have hr : inR r x y = true := by rw [inR_iff]; omega
              have z0 := hP.1.cells (atG x y)
              rw [gcells_get _ (atG_lt hc)] at z0
              have fz := hP.1.free (atG x y)
              have hPn := hid (hP.cell hBl hc hr)
              have eat : (y + 40).toNat * 80 + (x + 40).toNat = atG x y := by rw [atG]; omega
              replace hc := hid hc
              replace hr := hid hr
              go_wp2
              all_goals
                go_roundw
                case rel => exact ⟨_, rfl, by omega, by omega, by omega, hPn.out⟩
                case measure => simp [intOf]; omega
            · have hP2 := hid (hP.row (by omega))
              go_wp2
              all_goals
                go_roundw
                case rel => exact ⟨_, rfl, by omega, by omega, by omega, hP2.out⟩
                case measure => simp [intOf]; omega
      · have hP2 := hid (hP.done (by omega))
        go_wp2
        all_goals
          go_end0
          exact hP2.out
end Go.Proofs.Ytiljojpnbpdaeaa
/- Contract of cellsOf. Condition: at most 2^20 rectangles, not too far from the chip. -/
namespace Go.Proofs.Ytiljojpnbpdaeaa
open Go.RowKit

/-- What cellsOf and its kin leave: a new block with the cells of g. -/
def CellsB (g : Grid) (w : World) (e : Ending) (w' : World) : Prop := ∃ B, e = .returned (.pointer (some ⟨B, 0, none⟩)) ∧ w.heap.size ≤ B ∧ Blk w' B (gcells g) 140 ∧ Ext w w'
theorem gL_snoc {l : List Q4} {k : Nat} {r : Q4} (h : l[k]? = some r) : gcells (gmk fun x y => gh (gL (l.take k)) x y || inR r x y) = gcells (gL (l.take (k + 1))) := by
  rw [gL, gL, ← inL_snoc h]
  refine gmk_ext fun x y hc => ?_
  rw [gh_gmk _ hc]
theorem Blk.pair {w w' : World} {B : Nat} {cs ds : List Value} {t : TypeId} (h : Blk w B cs t) (e : cs = ds) (hw : w = w') : Blk w' B ds t := hw ▸ e ▸ h
set_option maxRecDepth 100000 in
set_option maxHeartbeats 4000000 in
theorem cellsOf_any (q : Option Addr) (n c : Nat) (l : List Q4) (w : World) (h : SlT enc4 4 w q n l) (hn : n ≤ 1048576) (hv : ∀ r ∈ l, Near r) :
    Calls Try.prog 57 #[.slice q n c] w (CellsB (gL l) w) := by
  have hl := hid h.length
  replace hv := hid hv
  go_enter Try.func57, Try.ntmps57
  go_wp2
  generalize hW : w.alloc _ = W0
  obtain ⟨E0, z0, b0⟩ := boxes1 hW
  clear hW
  have hb0 : Blk W0 w.heap.size (gcells (gL (l.take 0))) 140 := by
    have := inL_nil
    rw [zeroCells] at b0
    show W0.heap[w.heap.size]? = _
    rw [b0]
    simp only [List.take_zero, gL, ← inL_nil]
  clear b0
  obtain ⟨B, hB⟩ : ∃ B, B = w.heap.size := ⟨_, rfl⟩
  rw [← hB] at hb0 ⊢
  replace hB := hid hB
  replace z0 := hid z0
  go_loopw [10] (fun i wr => ∃ k : Nat, k ≤ n ∧ i = .int .i64 k ∧ Ext w wr ∧ Blk wr B (gcells (gL (l.take k))) 140) (fun i _ => n - (intOf i).toNat)
  case atStart => exact ⟨0, by omega, rfl, E0, hb0⟩
  case round =>
    clear hb0 E0 W0 z0
    obtain ⟨k, hk, rfl, hE, hb⟩ := hrel
    by_cases hlt : k < n
    · obtain ⟨b, off, x, rfl, hbn, hx, c0, c1, c2, c3⟩ := (h.ext hE).four hlt
      have hBl := hb.lt
      have hvx := hid (hv.out x (List.mem_of_getElem? hx.out))
      replace hb := hid hb
      clear hbn
      go_wp2_with fail
      have hb1 := hb.out.alloc (.cells #[.int .i64 x.a, .int .i64 x.b, .int .i64 x.c, .int .i64 x.d] 49)
      refine (put_any B _ x _ hb1 hvx.out).mono ?_
      rintro e w1 ⟨rfl, hb2, hM⟩
      rw [gL_snoc hx.out] at hb2
      have hE1 := hid ((hE.alloc (.cells #[.int .i64 x.a, .int .i64 x.b, .int .i64 x.c, .int .i64 x.d] 49)).then hM (by intro k hk; simp at hk; rw [hk, hB.out]; omega))
      clear hM c0 c1 c2 c3 hb1
      replace hb2 := hid hb2
      go_wp2_with fail
      go_roundw
      case rel => exact ⟨k + 1, by omega, by go_num, hE1.out, hb2.out⟩
      case measure => simp [intOf]; omega
    · go_wp2_with fail
      go_ret
      rw [take_all hl.out (by omega)] at hb
      exact ⟨B, rfl, by rw [hB.out]; omega, hb, hE⟩
end Go.Proofs.Ytiljojpnbpdaeaa
