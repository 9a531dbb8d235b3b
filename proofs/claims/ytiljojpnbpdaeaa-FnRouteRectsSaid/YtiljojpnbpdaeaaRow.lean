/- Rows of bools read whole and compared in regions that draw their order; the region of a set, as its loops go over it. No condition. -/
import Derived.Test.YtiljojpnbpdaeaaRg3
import Derived.Deep.MidRow
import Derived.ChangeKeysEq
import Derived.Laws.StructEq
namespace Go.Proofs.Ytiljojpnbpdaeaa
open Go.RowKit

/-- n cells, bools. -/
def bools (n : Nat) (f : Nat → Bool) : List Value := (List.range n).map fun i => .bool (f i)
theorem bools_len (n : Nat) (f : Nat → Bool) : (bools n f).length = n := by simp [bools]
theorem bools_get {n : Nat} (f : Nat → Bool) {i : Nat} (h : i < n) : (bools n f)[i]? = some (.bool (f i)) := by rw [bools, List.getElem?_map, List.getElem?_range h]; rfl
section
variable {P : Program}
theorem run_part_bool {e : TypeId} (he : P.underlying e = some .bool) (w : World) {n : Nat} (f : Nat → Bool) {i : Nat} (h : i < n) : (Go.part e (bools n f).toArray (i * 1)).run P w = .ok (.bool (f i)) w := by
  have := bools_get f h
  simp [Go.part, isAgg, run_underlying he, this]
theorem run_eqItems_bools (w : World) (d : Nat) {e : TypeId} (he : P.underlying e = some .bool) (hc : P.cellsOf e = 1) {n : Nat} (f g : Nat → Bool) :
    ∀ is : List Nat, (∀ i ∈ is, i < n) → (Op.eqItems (d + 1) e (P.cellsOf e) (bools n f).toArray (bools n g).toArray is).run P w = .ok (is.all fun i => f i == g i) w
  | [], _ => by simp [Op.eqItems]
  | i :: is, h => by
    have hi := h i (by simp)
    have ih := run_eqItems_bools w d he hc f g is (fun j hj => h j (by simp [hj]))
    rw [hc] at ih ⊢
    simp only [Op.eqItems, Sem.run_bind, run_part_bool he w f hi, run_part_bool he w g hi, Result.andThen_ok, run_equalIn_bool' w d e _ _ he, List.all_cons]
    cases hb : (f i == g i)
    · simp
    · simpa using ih
/-- Rows of bools are equal. -/
def sameRow (n : Nat) (f g : Nat → Bool) : Bool := (List.range n).all fun i => f i == g i
theorem sameRow_iff {n : Nat} {f g : Nat → Bool} : sameRow n f g = true ↔ ∀ i, i < n → f i = g i := by simp [sameRow]
theorem run_eql_bools (w : World) {t e : TypeId} {n : Nat} {i : TypeInfo} (ht : P.underlying t = some (.array n e)) (hi : P.info? e = some i) (he : P.underlying e = some .bool) (hc : P.cellsOf e = 1) (f g : Nat → Bool) :
    (binOp .eql t (.agg (bools n f).toArray) (.agg (bools n g).toArray)).run P w = .ok (.bool (sameRow n f g)) w := by
  rw [run_eql_struct, run_equalIn_array w 9999 _ _ ht hi, run_eqItems_bools w 9998 he hc f g _ (fun i hi => List.mem_range.1 hi)]
  rfl
end
section
variable {P : Program} {C : World → Prop} {a : Act} {o : Oper} {K : Act → Prop}
theorem quiet_load_row (ty : TypeId) (x : Operand) (h : o.op = .load ty x) (b off : Nat) (hx : a.eval x = .pointer (some ⟨b, off, none⟩)) (cs : List Value) (d : TypeDesc) (hc : ∀ w, C w → w.rangeAt b off cs)
    (hu : P.underlying ty = some d) (hd : d.isRow = true) (hi : (P.info? ty).map (·.size) = some cs.length) (hk : K (a.put o.dst (.agg cs.toArray))) : o.quiet P a C K :=
  ⟨_, fun w hw => by
    unfold Oper.quietAt execOp
    simp only [h, hx, Instr.loadAt, Instr.sureAddr, Sem.run_bind, Sem.run_pure, Result.andThen_ok, run_loadVar_mid w b off ty cs d (hc w hw) hu hd hi]
    exact ⟨rfl, rfl⟩, hk⟩
theorem quiet_eql_row (t t' : TypeId) (x y : Operand) (h : o.op = .binOp .eql t x y t') {n : Nat} (f g : Nat → Bool) (hx : a.eval x = .agg (bools n f).toArray) (hy : a.eval y = .agg (bools n g).toArray) {e : TypeId} {i : TypeInfo}
    (ht : P.underlying t = some (.array n e)) (hi : P.info? e = some i) (he : P.underlying e = some .bool) (hc : P.cellsOf e = 1) (hm : P.eqGuardType P.depth t = false) (hk : K (a.put o.dst (.bool (sameRow n f g)))) : o.quiet P a C K :=
  ⟨_, fun w _ => by
    unfold Oper.quietAt execOp
    simp only [h, hx, hy, Sem.run_bind, run_eqGuard_agg w .eql t x y _ _ hm, Result.andThen_ok, run_eql_bools w ht hi he hc f g, Sem.run_pure]
    exact ⟨rfl, rfl⟩, hk⟩
end
/-- A row of a set. -/
def rowG (g : Grid) (y : Nat) : Nat → Bool := fun i => g (y * 80 + i)
theorem rowG_range {w : World} {B : Nat} {g : Grid} {t : TypeId} (h : Blk w B (gcells g) t) {y : Nat} (hy : y < 80) : w.rangeAt B (y * 80) (bools 80 (rowG g y)) := fun j v hj => by
  have hl : j < 80 := by have := (List.getElem?_eq_some_iff.1 hj).1; rwa [bools_len] at this
  rw [bools_get _ hl] at hj
  rw [h.cells, gcells_get _ (by omega), ← hj]; rfl
theorem gh_nat {g : Grid} {x y : Nat} (hx : x < 80) (hy : y < 80) : gh g ((x : Int) - 40) ((y : Int) - 40) = g (y * 80 + x) := by
  rw [gh_on (by rw [onC_iff]; omega), show atG ((x : Int) - 40) ((y : Int) - 40) = y * 80 + x by unfold atG; omega]
theorem sameRow_runs {g : Grid} {y e : Nat} (hy : y < 80) (he : e < 80) : sameRow 80 (rowG g e) (rowG g y) = true ↔ runs g ((e : Int) - 40) = runs g ((y : Int) - 40) := by
  rw [sameRow_iff, runs_inj]
  constructor
  · intro h x
    by_cases hx : -40 ≤ x ∧ x < 40
    · have := h (x + 40).toNat (by omega)
      rw [rowG, rowG, ← gh_nat (g := g) (x := (x + 40).toNat) (by omega) he, ← gh_nat (g := g) (x := (x + 40).toNat) (by omega) hy] at this
      rwa [show (((x + 40).toNat : Nat) : Int) - 40 = x by omega] at this
    · rw [gh_off, gh_off]
      · rw [onC, Bool.and_eq_false_iff]; left; simp; omega
      · rw [onC, Bool.and_eq_false_iff]; left; simp; omega
  · intro h i hi
    have := h ((i : Int) - 40)
    rwa [gh_nat hi he, gh_nat hi hy] at this
def mkR (y e : Int) (p : Int × Int) : Q4 := ⟨p.1, y, p.2, e⟩
/-- The region's list, with what is left of the band from column x on. -/
def Rest (g : Grid) (y e x : Int) (out : List Q4) : Prop := canon g = out ++ ((pairs (chg g y x)).map (mkR y e) ++ canonY g e)
theorem Rest.start {g : Grid} {y e : Int} {out : List Q4} (h : canon g = out ++ canonY g y) (hy : y < 40) (he : rowEnd g y (y + 1) = e) : Rest g y e (-40) out := by
  rw [Rest, h, canonY_step hy, band, he]; rfl
theorem Rest.skip {g : Grid} {y e x : Int} {out : List Q4} (h : Rest g y e x out) (h1 : gh g x y = false) (h0 : gh g (x - 1) y = false) : Rest g y e (x + 1) out := by
  rw [Rest, chg_miss (by rw [h1, h0])] at h; exact h
theorem Rest.done {g : Grid} {y e x : Int} {out : List Q4} (h : Rest g y e x out) (hx : 40 ≤ x) (h0 : gh g (x - 1) y = false) : canon g = out ++ canonY g e := by
  have h2 := h.skip (gh_big hx) h0
  rw [Rest, chg_stop (by omega), pairs, List.map_nil, List.nil_append] at h2
  · exact h2
  · intro a b l hh; cases hh
/-- Within a run that began at f. -/
def InRun (g : Grid) (y f x : Int) : Prop := chg g y f = f :: chg g y x ∧ gh g (x - 1) y = true
theorem InRun.start {g : Grid} {y x : Int} (hx : x < 40) (h1 : gh g x y = true) (h0 : gh g (x - 1) y = false) : InRun g y x (x + 1) :=
  ⟨chg_hit (by omega) (by rw [h1, h0]; simp), by rw [show x + 1 - 1 = x by omega]; exact h1⟩
theorem InRun.go {g : Grid} {y f x : Int} (h : InRun g y f x) (h1 : gh g x y = true) : InRun g y f (x + 1) :=
  ⟨by rw [h.1, chg_miss (by rw [h1, h.2])], by rw [show x + 1 - 1 = x by omega]; exact h1⟩
theorem InRun.stop {g : Grid} {y e f x : Int} {out : List Q4} (hr : Rest g y e f out) (h : InRun g y f x) (hx : x ≤ 40) (h1 : gh g x y = false) : Rest g y e (x + 1) (out ++ [⟨f, y, x, e⟩]) := by
  rw [Rest, h.1, chg_hit hx (by rw [h1, h.2]; simp), pairs, List.map_cons] at hr
  rw [Rest, hr]; simp [mkR]
end Go.Proofs.Ytiljojpnbpdaeaa
