/- Contract of IsRoute (program). Condition: at most 2^20 rectangles and points. -/
import Derived.Test.YtaigndaabmelhaaIdx
import Derived.Test.YtaigndaabmelhaaMp2
import Derived.Test.YtaigndaabmelhaaReg
namespace Go.Proofs.Ytaigndaabmelhaa
open Go.RowKit

theorem has_any (B : Nat) (g : Grid) (x y : Int) (w : World) (h : Blk w B (gcells g) 109) :
    Calls Try.prog 121 #[.pointer (some ⟨B, 0, none⟩), .int .i64 x, .int .i64 y] w fun e w' => e = .returned (.bool (gh g x y)) ∧ Ext w w' := by
  have hcall := fun W => isUnitCell_any x y W
  have hBl := h.lt
  cases hc : onC x y with
  | false =>
    have hr : Hid (gh g x y = false) := gh_off hc
    rw [hc] at hcall
    clear hc
    go_enter Try.func121, Try.ntmps121
    go_wp2_with fail
    refine (hcall _).mono ?_
    rintro e w2 ⟨rfl, E2⟩
    clear hcall
    go_wp2_with fail
    go_ret
    exact ⟨ret_bool hr.out.symm, E2⟩
  | true =>
    have hr : Hid (gh g x y = g (atG x y)) := gh_on hc
    have hat := atG_lt hc
    have c0 := h.cells (atG x y)
    rw [gcells_get _ hat] at c0
    rw [hc] at hcall
    obtain ⟨⟨x0, x1⟩, y0, y1⟩ := onC_iff.1 hc
    have eat : (y + 40).toNat * 80 + (x + 40).toNat = atG x y := by rw [atG]; omega
    clear hc
    replace h := hid h
    go_enter Try.func121, Try.ntmps121
    go_wp2_with fail
    refine (hcall _).mono ?_
    rintro e w2 ⟨rfl, E2⟩
    have c2 := (E2.cells _ _ hBl).trans c0
    have hBl2 := Nat.lt_of_lt_of_le hBl E2.le
    clear hcall c0
    go_wp2_with fail
    go_ret
    exact ⟨ret_bool hr.out.symm, E2⟩
/-- The step k of a path is right. -/
def okAt (g : Grid) (l : List Q2) (k : Nat) : Bool := match l[k]? with
  | some p => onC p.a p.b && !gh g p.a p.b && !decide (p ∈ l.take k) && (decide (k = 0) || adjB (l.getD (k - 1) ⟨0, 0⟩) p)
  | none => true
/-- The path is a route around the unit cells of l. -/
def isRt (l : List Q4) (ps : List Q2) : Bool := isReg l && decide (0 < ps.length) && (List.range ps.length).all (okAt (gL l) ps)
theorem okAt_some {g : Grid} {l : List Q2} {k : Nat} {p : Q2} (h : l[k]? = some p) : okAt g l k = (onC p.a p.b && !gh g p.a p.b && !decide (p ∈ l.take k) && (decide (k = 0) || adjB (l.getD (k - 1) ⟨0, 0⟩) p)) := by rw [okAt, h]
theorem isRt_false {l : List Q4} {ps : List Q2} {k : Nat} (hk : k < ps.length) (h : okAt (gL l) ps k = false) : isRt l ps = false := by
  rw [isRt]
  have : (List.range ps.length).all (okAt (gL l) ps) = false := by
    rw [List.all_eq_false]
    exact ⟨k, List.mem_range.2 hk, by rw [h]; simp⟩
  rw [this, Bool.and_false]
theorem isRt_true {l : List Q4} {ps : List Q2} (h1 : isReg l = true) (h2 : 0 < ps.length) (h : (List.range ps.length).all (okAt (gL l) ps) = true) : isRt l ps = true := by
  rw [isRt, h1, h]; simpa using h2
theorem all_range_snoc {f : Nat → Bool} {k : Nat} (h : (List.range k).all f = true) (hk : f k = true) : (List.range (k + 1)).all f = true := by
  rw [List.range_succ, List.all_append, h]; simpa using hk
theorem mem_take_snoc {l : List Q2} {k : Nat} {p : Q2} (h : l[k]? = some p) : (fun y => if y = p then true else decide (y ∈ l.take k)) = fun y => decide (y ∈ l.take (k + 1)) := by
  funext y
  rw [take_snoc h, Bool.eq_iff_iff]
  split
  · rename_i he; subst he; simp
  · rename_i he; simp [he]
theorem okP_on {p : Q2} (h : onC p.a p.b = true) : okP p := by
  rw [onC_iff] at h
  exact ⟨WalkArith.wf_i64 (by constructor <;> omega), WalkArith.wf_i64 (by constructor <;> omega)⟩
theorem zeroB (w : World) : (zeroValue 4).run Try.prog w = .ok (.bool false) w := Try.zeroValue4 w
theorem kP_inj : ∀ y z, okP y → okP z → kP y = kP z → y = z := fun y z hy hz h => by
  have := lawP.inj (keyP hy) (h ▸ keyP hz)
  rw [V2, V2] at this
  obtain ⟨a, b⟩ := y
  obtain ⟨c, d⟩ := z
  simp at this
  simp [this]
theorem kP_key : ∀ y, okP y → WideAt.IsKeyLit (kP y) := fun _ hy => lawP.key (keyP hy)
abbrev MapPB (w : World) (M n : Nat) (f : Q2 → Bool) : Prop := MapBo Try.prog 138 4 kP okP w M n f
end Go.Proofs.Ytaigndaabmelhaa
