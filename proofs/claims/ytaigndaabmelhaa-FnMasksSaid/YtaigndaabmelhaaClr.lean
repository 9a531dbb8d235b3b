/- Contracts of cells.clear (program) and l33Fits (reference): both answer whether a rectangle, which may reach over the border, has no unit cell of a set. Condition: a rectangle not too far from the chip. -/
import Derived.Test.YtaigndaabmelhaaRg3
import Derived.Test.YtaigndaabmelhaaIrt
import Derived.Test.YtaigndaabmelhaaSp3
namespace Go.Proofs.Ytaigndaabmelhaa
open Go.RowKit

/-- No unit cell of the rectangle is in the set. -/
def clearB (g : Grid) (r : Q4) : Bool := (List.range (r.d - r.b).toNat).all fun j => (List.range (r.c - r.a).toNat).all fun i => !gh g (r.a + (i : Int)) (r.b + (j : Int))
theorem clearB_iff {g : Grid} {r : Q4} : clearB g r = true ↔ ∀ x y, inR r x y = true → gh g x y = false := by
  rw [clearB, List.all_eq_true]
  constructor
  · intro h x y hr
    rw [inR_iff] at hr
    have h1 := h (y - r.b).toNat (List.mem_range.2 (by omega))
    rw [List.all_eq_true] at h1
    have h2 := h1 (x - r.a).toNat (List.mem_range.2 (by omega))
    rw [show r.a + (((x - r.a).toNat : Nat) : Int) = x by omega, show r.b + (((y - r.b).toNat : Nat) : Int) = y by omega] at h2
    simpa using h2
  · intro h j hj
    rw [List.mem_range] at hj
    rw [List.all_eq_true]
    intro i hi
    rw [List.mem_range] at hi
    rw [h _ _ (inR_iff.2 (by omega))]; rfl
theorem clearB_hit {g : Grid} {r : Q4} {x y : Int} (hr : inR r x y = true) (hg : gh g x y = true) : clearB g r = false := by
  cases h : clearB g r with
  | false => rfl
  | true => rw [clearB_iff.1 h x y hr] at hg; cases hg
/-- Clear as far as (x, y), row by row. -/
def clrTo (g : Grid) (r : Q4) (u v : Int) : Prop := ∀ x y, inR r x y = true → (y < v ∨ (y = v ∧ x < u)) → gh g x y = false
theorem clrTo_start (g : Grid) (r : Q4) (u : Int) (hu : u ≤ r.a) : clrTo g r u r.b := fun x y hr h => by rw [inR_iff] at hr; omega
theorem clrTo_step {g : Grid} {r : Q4} {u v : Int} (h : clrTo g r u v) (hg : gh g u v = false) : clrTo g r (u + 1) v := fun x y hr hxy => by
  by_cases he : y = v ∧ x = u
  · obtain ⟨rfl, rfl⟩ := he; exact hg
  · exact h x y hr (by omega)
theorem clrTo_row {g : Grid} {r : Q4} {u v : Int} (h : clrTo g r u v) (hu : r.c ≤ u) : clrTo g r r.a (v + 1) := fun x y hr hxy => h x y hr (by rw [inR_iff] at hr; omega)
theorem clrTo_end {g : Grid} {r : Q4} {u v : Int} (h : clrTo g r u v) (hv : r.d ≤ v) : clearB g r = true := clearB_iff.2 fun x y hr => h x y hr (by rw [inR_iff] at hr; omega)
set_option maxRecDepth 100000 in
set_option maxHeartbeats 4000000 in
theorem clear_any (B : Nat) (g : Grid) (r : Q4) (w : World) (hb : Blk w B (gcells g) 109) (hv : Near r) :
    Calls Try.prog 98 #[.pointer (some ⟨B, 0, none⟩), .agg #[.int .i64 r.a, .int .i64 r.b, .int .i64 r.c, .int .i64 r.d]] w fun e w' => e = .returned (.bool (clearB g r)) ∧ Ext w w' := by
  obtain ⟨⟨a0, a1⟩, ⟨b0, b1⟩, ⟨c0, c1⟩, d0, d1⟩ := hv
  have hbw := hid hb
  clear hb
  go_enter Try.func98, Try.ntmps98
  go_wp2
  generalize hW : w.alloc _ = W0
  obtain ⟨E0, z0, bR⟩ := boxes1 hW
  clear hW
  have hR := hid (show Blk W0 w.heap.size [.int .i64 r.a, .int .i64 r.b, .int .i64 r.c, .int .i64 r.d] _ from bR)
  clear bR
  obtain ⟨P, hP⟩ : ∃ P, P = w.heap.size := ⟨_, rfl⟩
  rw [← hP] at hR ⊢
  replace hP := hid hP
  replace z0 := hid z0
  go_loopw [5] (fun v wr => ∃ y : Int, v = .int .i64 y ∧ r.b ≤ y ∧ y ≤ 1000 ∧ Hid (clrTo g r r.a y) ∧ Ext W0 wr) (fun v _ => (1100 - intOf v).toNat)
  case atStart => exact ⟨r.b, rfl, by omega, by omega, hid (clrTo_start g r r.a (Int.le_refl _)), Ext.refl _⟩
  case round =>
    obtain ⟨y, rfl, hy0, hy1, hC, hE⟩ := hrel
    have k0 := (hR.out.ext hE).cells 0
    have k3 := (hR.out.ext hE).cells 3
    simp only [List.getElem?_cons_zero, List.getElem?_cons_succ] at k0 k3
    have hPl := (hR.out.ext hE).lt
    by_cases hyd : y < r.d
    · go_wp2
      go_loopw [6] (fun v wr => ∃ x : Int, v = .int .i64 x ∧ r.a ≤ x ∧ x ≤ 1000 ∧ Hid (clrTo g r x y) ∧ Ext W0 wr) (fun v _ => (1100 - intOf v).toNat)
      case atStart => exact ⟨r.a, rfl, by omega, by omega, hC, hE⟩
      case round =>
        clear hC hE k0 k3 hPl
        obtain ⟨x, rfl, hx0, hx1, hC, hE⟩ := hrel
        have k2 := (hR.out.ext hE).cells 2
        simp only [List.getElem?_cons_zero, List.getElem?_cons_succ] at k2
        have hPl := (hR.out.ext hE).lt
        by_cases hxc : x < r.c
        · have hin : Hid (inR r x y = true) := inR_iff.2 (by omega)
          have hcall := fun W (hW : Blk W B (gcells g) 109) => has_any B g x y W hW
          have hbr := hid (hbw.out.ext (E0.trans hE))
          cases hg : gh g x y with
          | true =>
            have hr : Hid (false = clearB g r) := (clearB_hit hin.out hg).symm
            rw [hg] at hcall
            replace hcall := hid hcall
            clear hg
            go_wp2_with fail
            refine (hcall.out _ hbr.out).mono ?_
            rintro e w2 ⟨rfl, E2⟩
            go_wp2_with fail
            go_ret
            exact ⟨ret_bool hr.out, (E0.trans hE).trans E2⟩
          | false =>
            have hC2 := hid (clrTo_step hC.out hg)
            rw [hg] at hcall
            replace hcall := hid hcall
            clear hg
            go_wp2_with fail
            refine (hcall.out _ hbr.out).mono ?_
            rintro e w2 ⟨rfl, E2⟩
            go_wp2_with fail
            go_roundw
            case rel => exact ⟨x + 1, rfl, by omega, by omega, hC2, hE.trans E2⟩
            case measure => simp [intOf]; omega
        · have hC2 := hid (clrTo_row hC.out (by omega))
          go_wp2_with fail
          go_roundw
          case rel => exact ⟨y + 1, rfl, by omega, by omega, hC2, hE⟩
          case measure => simp [intOf]; omega
    · have hr : Hid (true = clearB g r) := (clrTo_end hC.out (by omega)).symm
      go_wp2_with fail
      go_ret
      exact ⟨ret_bool hr.out, E0.trans hE⟩
end Go.Proofs.Ytaigndaabmelhaa
