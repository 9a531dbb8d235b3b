/- Contract of leftToRight: the order of the blocks from left to right. Condition: at most 12 blocks. -/
import Derived.Test.YtiljojpnbpdaeaaSrs
import Derived.Test.YtiljojpnbpdaeaaSpn
namespace Go.Proofs.Ytiljojpnbpdaeaa
open Go.RowKit

def cmpI (a b : Int) : Int := if a < b then -1 else if a > b then 1 else 0
theorem isNaN_any (a : Int) (w : World) : Calls Try.prog 77 #[.int .i64 a] w fun e w' => e = .returned (.bool false) ∧ w = w' := by
  go_enter Try.func77, Try.ntmps77
  go_wp2
  go_ret
  exact ⟨by simp, rfl⟩
theorem compare_any (a b : Int) (w : World) : Calls Try.prog 42 #[.int .i64 a, .int .i64 b] w fun e w' => e = .returned (.int .i64 (cmpI a b)) ∧ w = w' := by
  go_enter Try.func42, Try.ntmps42
  by_cases h : a < b
  · have hr : Hid (-1 = cmpI a b) := by show _ = _; rw [cmpI, if_pos h]
    go_wp2
    go_ret
    exact ⟨ret_int hr.out, rfl⟩
  · by_cases h2 : b < a
    · have hr : Hid (1 = cmpI a b) := by show _ = _; rw [cmpI, if_neg h, if_pos h2]
      go_wp2
      go_ret
      exact ⟨ret_int hr.out, rfl⟩
    · have hr : Hid (0 = cmpI a b) := by show _ = _; rw [cmpI, if_neg h, if_neg h2]
      go_wp2
      go_ret
      exact ⟨ret_int hr.out, rfl⟩
def bX (l : List Q4) (i : Int) : Int := (l.getD i.toNat ⟨0, 0, 0, 0⟩).a
def cfX (l : List Q4) (i k : Int) : Int := cmpI (bX l i) (bX l k)
def upto (n : Nat) : List Int := (List.range n).map Int.ofNat
/-- The blocks from left to right. -/
def ltr (l : List Q4) : List Int := isort (ltOf (cfX l)) (upto l.length)
theorem bX_at {l : List Q4} {i : Nat} {x : Q4} (h : l[i]? = some x) : bX l i = x.a := by rw [bX, Int.toNat_natCast, getD_of h]
theorem owns_some2 {w : World} {base size n : Nat} {e : TypeId} {v : Value} {xs : List Value} (h : w.ownsRow base e size v n xs) (hv : v ≠ .slice none 0 0) : ∃ g c, v = .slice (some ⟨g, 0, none⟩) n c := by
  rcases Joins.ownsRow_forms h with ⟨rfl, rfl⟩ | ⟨g, c, rfl⟩
  · exact absurd rfl hv
  · exact ⟨_, _, rfl⟩
theorem upto_snoc (k : Nat) : upto (k + 1) = upto k ++ [(k : Int)] := by simp [upto, List.range_succ]
theorem upto_len (k : Nat) : (upto k).length = k := by simp [upto]
theorem upto_mem {k : Nat} {x : Int} (h : x ∈ upto k) : ∃ i : Nat, x = i ∧ i < k := by
  obtain ⟨i, hi, rfl⟩ := List.mem_map.1 h
  exact ⟨i, rfl, List.mem_range.1 hi⟩
theorem info_int : (Try.prog.info? 3).map (fun i => (i.zero, i.size, i.bytes)) = some (some (.int .i64 0), 1, 8) := by kernel_rfl
end Go.Proofs.Ytiljojpnbpdaeaa
