/- Contracts of the neighbors of a unit cell (program and reference), of slices.Index and Contains at points, of l32Adjacent. Condition: coordinates within 1000. -/
import Derived.Test.YtaigndaabmelhaaRg3
import Derived.Test.YtaigndaabmelhaaSp4
import Derived.Laws.StructEq
namespace Go.Proofs.Ytaigndaabmelhaa
open Go.RowKit

instance decQ2 : DecidableEq Q2 := fun x y => decidable_of_iff (x.a = y.a ∧ x.b = y.b) ⟨fun h => by cases x; cases y; simp_all, fun h => by subst h; simp⟩
def all4 (p : Q2) : List Q2 := [⟨p.a + 1, p.b⟩, ⟨p.a, p.b + 1⟩, ⟨p.a - 1, p.b⟩, ⟨p.a, p.b - 1⟩]
/-- The neighbors of p on the chip. -/
def nearL (p : Q2) : List Q2 := (all4 p).filter fun q => onC q.a q.b
def NearP (p : Q2) : Prop := (-1000 ≤ p.a ∧ p.a ≤ 1000) ∧ (-1000 ≤ p.b ∧ p.b ≤ 1000)
theorem onC_near {p : Q2} (h : onC p.a p.b = true) : NearP p := by rw [onC_iff] at h; unfold NearP; omega
theorem nearL_len (p : Q2) : (nearL p).length ≤ 4 := by unfold nearL; exact List.length_filter_le _ _
theorem SlT.of_blk {α : Type} {enc : α → List Value} {sz : Nat} (hsz : ∀ x, (enc x).length = sz) {w : World} {B : Nat} {l : List α} {t : TypeId} (h : Blk w B (l.flatMap enc) t) : SlT enc sz w (some ⟨B, 0, none⟩) l.length l :=
  ⟨rfl, Or.inr ⟨B, 0, rfl, h.lt, fun k x hx j v hv => by rw [Nat.zero_add, h.cells, flatMap_at hsz hx hv]⟩⟩
/-- A list of points in a row of the call's own. -/
def PtsB (l : List Q2) (w : World) (e : Ending) (w' : World) : Prop := ∃ q c, e = .returned (.slice q l.length c) ∧ w'.ownsRow w.heap.size 138 2 (.slice q l.length c) l.length (l.flatMap enc2) ∧ Ext w w'
theorem info_Pt : (Try.prog.info? 138).map (fun i => (i.zero, i.size, i.bytes)) = some (some (.agg #[.int .i64 0, .int .i64 0]), 2, 16) := by kernel_rfl
theorem one_int2 (a b : Int) : ∀ u ∈ [Value.int .i64 a, .int .i64 b], u.oneCell' = true := fun u hu => by simp at hu; rcases hu with rfl | rfl <;> rfl
theorem ne_new {v v' : Value} {N B : Nat} (hne : v.ownBlock ≠ some B) (h : v'.ownBlock = v.ownBlock ∨ v'.ownBlock = some N) (hB : B < N) : v'.ownBlock ≠ some B := by
  rcases h with h | h
  · rw [h]; exact hne
  · rw [h]; intro e; cases e; omega
theorem owns_empty {w : World} {base B size : Nat} {e : TypeId} (h : Blk w B [] e) (hb : base ≤ B) : w.ownsRow base e size (.slice (some ⟨B, 0, none⟩) 0 0) 0 [] :=
  ⟨by simp, .inr ⟨B, 0, #[], rfl, hb, h, Nat.le_refl _, Nat.zero_le _, by simp, by simp⟩⟩
theorem filter_snoc {α : Type} {l : List α} {k : Nat} {x : α} {p : α → Bool} (h : l[k]? = some x) : (l.take (k + 1)).filter p = (l.take k).filter p ++ if p x = true then [x] else [] := by
  rw [take_snoc h, List.filter_append]
  cases hp : p x <;> simp [hp]
end Go.Proofs.Ytaigndaabmelhaa
