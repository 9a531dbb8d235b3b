/- Contracts of ChannelSpans (program and reference), markChannel; the walk of the law FnExactChannelSpans. No condition at the law. -/
import Derived.Test.YtiljojpnbpdaeaaLch
import Derived.Test.YtiljojpnbpdaeaaMrk
namespace Go.Proofs.Ytiljojpnbpdaeaa
open Go.RowKit

/-- What ChannelSpans answers. -/
def chsR (t b : List Int) : List Q3 := if chOk t b then spansL t b else []
theorem chsR_len (t b : List Int) : (chsR t b).length ≤ 12 := by
  rw [chsR]; split
  · exact spansK_len _ _ _ _
  · simp
set_option maxRecDepth 100000 in
set_option maxHeartbeats 1000000 in
theorem markChannel_any (q1 q2 : Option Addr) (n m c1 c2 : Nat) (k : Int) (base : Nat) (e : TypeId) (xs ys : List Value) (w : World) (h1 : w.ownsRow base e 1 (.slice q1 n c1) n xs) (h2 : w.ownsRow base e 1 (.slice q2 m c2) m ys)
    (hne : ∀ a1 a2, q1 = some a1 → q2 = some a2 → a1.block ≠ a2.block) (hn : n ≤ 1048576) (hm : m ≤ 1048576) (hk0 : 0 ≤ k) (hk1 : k ≤ 1048576) :
    Calls Try.prog 13 #[.agg #[.slice q1 n c1, .slice q2 m c2], .int .i64 k] w fun e1 w' => e1 = .returned (.int .i64 (k + n + m)) ∧ Mut w w' (blkOf q1 ++ blkOf q2) := by
  go_enter Try.func13, Try.ntmps13
  go_wp2_with fail
  generalize hW : w.alloc _ = W0
  obtain ⟨E0, z0, b0⟩ := boxes1 hW
  clear hW z0
  refine (markInt64S_any q1 n c1 k base e xs _ (owns_ext h1 E0) hn hk0 (by omega)).mono ?_
  rintro e w1 ⟨rfl, o1, M1⟩
  have g1 := ((show Blk W0 _ [_, _] _ from b0).mut M1 (fun hh => by have := owns_ge h1 _ hh; omega)).cells
  clear b0 o1
  go_wp2_with fail
  refine (markInt64S_any q2 m c2 (k + n) base _ ys _ (M1.grownBy (fun g hg hh => by
    rw [own_blkOf] at hg
    cases q2 with
    | none => cases hg
    | some a2 =>
      obtain ⟨a1, ha1, hb⟩ := mem_blkOf.1 hh
      cases hg
      exact hne a1 a2 ha1 rfl hb) (owns_ext h2 E0)) hm (by omega) (by omega)).mono ?_
  rintro e w2 ⟨rfl, o2, M2⟩
  clear g1 o2
  go_wp2_with fail
  go_ret
  exact ⟨rfl, ((E0.mut (blkOf q1 ++ blkOf q2)).same ((M1.trans M2)))⟩
end Go.Proofs.Ytiljojpnbpdaeaa
