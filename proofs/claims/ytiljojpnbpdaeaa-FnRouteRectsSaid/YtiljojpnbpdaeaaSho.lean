/- Contract of ShortestRoute (program). Condition: at most 2^20 rectangles. -/
import Derived.Test.YtiljojpnbpdaeaaDis
import Derived.Test.YtiljojpnbpdaeaaRch
namespace Go.Proofs.Ytiljojpnbpdaeaa
open Go.RowKit Go.Maps

/-- The code of ShortestRoute. -/
def srC (l : List Q4) (a b : Q2) : Int := if (isReg l && onC a.a a.b && onC b.a b.b) = false then 1 else if (gh (gL l) a.a a.b || gh (gL l) b.a b.b) = true then 6 else if (bfs (gL l) b).1 a < 0 then 5 else 0
/-- Its route. -/
def srL (l : List Q4) (a b : Q2) : List Q2 := if srC l a b = 0 then pathN (bfs (gL l) b).1 ((bfs (gL l) b).1 a).toNat a else []
/-- What it leaves. -/
def RouteR (l : List Q4) (a b : Q2) (w : World) (e : Ending) (w' : World) : Prop := ∃ p d, e = .returned (.tuple #[.slice p (srL l a b).length d, .int .i64 (srC l a b)]) ∧ w'.ownsRow w.heap.size 47 2 (.slice p (srL l a b).length d) (srL l a b).length ((srL l a b).flatMap enc2) ∧ Ext w w'
theorem sr_none {l : List Q4} {a b : Q2} {c : Int} {w w' : World} (h : srC l a b = c) (hc : c ≠ 0) (hE : Ext w w') : RouteR l a b w (.returned (.tuple #[.slice none 0 0, .int .i64 c])) w' := by
  refine ⟨none, 0, ?_, ?_, hE⟩
  · rw [srL, h, if_neg hc]; rfl
  · rw [srL, h, if_neg hc]; exact World.ownsRow_nil _ _ _ _
theorem pathN_head (D : Q2 → Int) (n : Nat) (a : Q2) : pathN D n a = a :: (pathN D n a).tail := by cases n <;> rfl
theorem path_go {D : Q2 → Int} {k : Nat} {cur q : Q2} {out P : List Q2} (h : out ++ (pathN D (k + 1) cur).tail = P) (hq : nextP D cur = q) : (out ++ [q]) ++ (pathN D k q).tail = P := by
  rw [← h, pathN, hq, List.tail_cons, pathN_head D k q]; simp
/-- What holds while the route is built. -/
def Going (D : Q2 → Int) (P : List Q2) (w7 : World) (v u : Value) (wr : World) : Prop := ∃ (pa m : Nat) (cur : Q2) (out : List Q2) (q : Option Addr) (c : Nat), v = .slice q out.length c ∧ u = .pointer (some ⟨pa, 0, none⟩) ∧ Blk wr pa [.int .i64 cur.a, .int .i64 cur.b] 47 ∧ Hid (onC cur.a cur.b = true ∧ D cur = m ∧ out ++ (pathN D m cur).tail = P) ∧
  wr.ownsRow w7.heap.size 47 2 (.slice q out.length c) out.length (out.flatMap enc2) ∧ Value.ownBlock (.slice q out.length c) ≠ some pa ∧ w7.heap.size ≤ pa ∧ Ext w7 wr
/-- How far the route has come. -/
def lenOf (v : Value) : Nat := match v with | .slice _ n _ => n | _ => 0
theorem srL_len (l : List Q4) (a b : Q2) : (srL l a b).length ≤ 6401 := by
  rw [srL]
  split
  · rename_i h
    have hb : onC b.a b.b = true := by
      rw [srC] at h
      cases hb : onC b.a b.b with
      | true => rfl
      | false => rw [hb, Bool.and_false, if_pos rfl] at h; omega
    have h1 := (inv_bfs (g := gL l) hb).bd a
    have h2 := (inv_bfs (g := gL l) hb).len
    rw [pathN_len]; omega
  · simp
end Go.Proofs.Ytiljojpnbpdaeaa
