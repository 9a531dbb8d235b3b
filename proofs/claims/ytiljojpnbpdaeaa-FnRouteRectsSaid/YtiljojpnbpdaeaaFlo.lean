/- Contracts of cells.not and cells.flood. No condition on the sets. -/
import Derived.Test.YtiljojpnbpdaeaaRch
import Derived.Test.YtiljojpnbpdaeaaRg4
import Derived.Test.YtiljojpnbpdaeaaSpd
import Derived.Deep.Cut
namespace Go.Proofs.Ytiljojpnbpdaeaa
open Go.RowKit

def notN (g : Grid) (m : Nat) : Grid := fun j => decide (j < m) && !g j
theorem notN_zero (g : Grid) : gcells gnone = gcells (notN g 0) := gcells_ext fun i _ => by simp [gnone, notN]
theorem notN_all (g : Grid) : gcells (notN g 6400) = gcells (gnot g) := gcells_ext fun i hi => by
  rw [notN, gnot, gmk, gh_of hi]; simp [hi]
theorem notN_set (g : Grid) (m : Nat) : (gcells (notN g m)).set m (.bool (!g m)) = gcells (notN g (m + 1)) := by
  rw [gcells_set]
  refine gcells_ext fun i _ => ?_
  rw [gset, notN, notN]
  by_cases e : i = m
  · subst e; simp
  · rw [if_neg e]
    congr 1
    rw [Bool.eq_iff_iff]; simp; omega
theorem Blk.grown {w w' : World} {B : Nat} {cs : List Value} {t : TypeId} {row : Option Nat} (h : Blk w B cs t) (hg : w.grownBy w' row) (hne : row ≠ some B) : Blk w' B cs t := (hg.block B h.lt (fun e => hne e.symm)).trans h
theorem vint {k : IntKind} {a b : Int} (h : a = b) : Value.int k a = .int k b := by rw [h]
/-- A unit cell as flood keeps it. -/
def encS (x : Q2) : List Value := [.int .i64 (x.a + 40), .int .i64 (x.b + 40)]
theorem encS_len (x : Q2) : (encS x).length = 2 := rfl
theorem SlT.twoS {w : World} {p : Option Addr} {n : Nat} {l : List Q2} (h : SlT encS 2 w p n l) {k : Nat} (hk : k < n) :
    ∃ b off x, p = some ⟨b, off, none⟩ ∧ b < w.heap.size ∧ Hid (l[k]? = some x) ∧ w.cell? ⟨b, off + k * 2, none⟩ = some (.int .i64 (x.a + 40)) ∧ w.cell? ⟨b, off + k * 2 + 1, none⟩ = some (.int .i64 (x.b + 40)) := by
  obtain ⟨b, off, x, h1, h2, h3, h4⟩ := h.get hk
  exact ⟨b, off, x, h1, h2, h3, h4 0 _ rfl, h4 1 _ rfl⟩
theorem gD_set (D : Q2 → Int) {u v : Int} (h : onC u v = true) : (gcells (gD D)).set (atG u v) (.bool true) = gcells (gD (updD D ⟨u, v⟩ 0)) := by
  rw [gcells_set, gD, gD]
  refine gset_gmk _ h fun x y _ => ?_
  rw [updD]
  by_cases e : x = u ∧ y = v
  · obtain ⟨rfl, rfl⟩ := e
    simp
  · rw [if_neg e, if_neg]
    intro h
    cases h
    exact e ⟨rfl, rfl⟩
theorem gD_none : gcells gnone = gcells (gD fun _ => -1) := gcells_ext fun i _ => by simp [gnone, gD, gmk]
theorem gD_at (D : Q2 → Int) {q : Q2} (h : onC q.a q.b = true) : gD D (atG q.a q.b) = decide (0 ≤ D q) := by rw [gD, gmk_at _ h]
end Go.Proofs.Ytiljojpnbpdaeaa
