/- Insertion sort on lists: the plain facts. No condition. -/
import Derived.Test.YtiljojpnbpdaeaaLib
namespace Go.Proofs.Ytiljojpnbpdaeaa

def insR (lt : Int → Int → Bool) (x : Int) : List Int → List Int
  | [] => [x]
  | y :: r => if lt x y then y :: insR lt x r else x :: y :: r
/-- x put into A from its end, past every y with lt x y. -/
def insB (lt : Int → Int → Bool) (A : List Int) (x : Int) : List Int := (insR lt x A.reverse).reverse
def isort (lt : Int → Int → Bool) (xs : List Int) : List Int := xs.foldl (insB lt) []
theorem insR_pass {lt : Int → Int → Bool} {x : Int} : ∀ {R S : List Int}, (∀ y ∈ R, lt x y = true) → insR lt x (R ++ S) = R ++ insR lt x S
  | [], _, _ => rfl
  | y :: R, S, h => by
    rw [List.cons_append, insR, if_pos (h y List.mem_cons_self), insR_pass (fun z hz => h z (List.mem_cons_of_mem _ hz))]; rfl
theorem insB_split {lt : Int → Int → Bool} {x : Int} {A1 A2 : List Int} (h2 : ∀ y ∈ A2, lt x y = true) (h1 : A1 = [] ∨ ∃ A0 z, A1 = A0 ++ [z] ∧ lt x z = false) : insB lt (A1 ++ A2) x = A1 ++ x :: A2 := by
  rw [insB, List.reverse_append, insR_pass (fun y hy => h2 y (List.mem_reverse.1 hy))]
  rcases h1 with rfl | ⟨A0, z, rfl, hz⟩
  · simp [insR]
  · simp [insR, hz]
theorem isort_snoc (lt : Int → Int → Bool) (xs : List Int) (x : Int) : isort lt (xs ++ [x]) = insB lt (isort lt xs) x := by
  rw [isort, List.foldl_append]; rfl
theorem insR_perm (lt : Int → Int → Bool) (x : Int) : ∀ R, (insR lt x R).Perm (x :: R)
  | [] => List.Perm.refl _
  | y :: R => by
    rw [insR]; split
    · exact ((insR_perm lt x R).cons y).trans (List.Perm.swap x y R)
    · exact List.Perm.refl _
theorem insB_perm (lt : Int → Int → Bool) (A : List Int) (x : Int) : (insB lt A x).Perm (A ++ [x]) := by
  rw [insB]
  refine (List.reverse_perm _).trans ((insR_perm lt x _).trans ?_)
  refine ((List.reverse_perm A).cons x).trans ?_
  exact (List.perm_append_singleton x A).symm
theorem foldl_perm (lt : Int → Int → Bool) : ∀ (xs acc : List Int), (xs.foldl (insB lt) acc).Perm (acc ++ xs)
  | [], acc => by simp
  | x :: xs, acc => by
    rw [List.foldl_cons]
    refine (foldl_perm lt xs (insB lt acc x)).trans ?_
    refine ((insB_perm lt acc x).append_right xs).trans ?_
    rw [List.append_assoc]; exact List.Perm.refl _
theorem isort_perm (lt : Int → Int → Bool) (xs : List Int) : (isort lt xs).Perm xs := foldl_perm lt xs []
theorem isort_len (lt : Int → Int → Bool) (xs : List Int) : (isort lt xs).length = xs.length := (isort_perm lt xs).length_eq
theorem isort_one (lt : Int → Int → Bool) (x : Int) : isort lt [x] = [x] := rfl
end Go.Proofs.Ytiljojpnbpdaeaa
