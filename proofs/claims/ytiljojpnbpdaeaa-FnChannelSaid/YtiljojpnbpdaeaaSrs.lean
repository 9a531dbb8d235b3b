/- Contract of slices.SortStableFunc at []int, at most 12 elements. -/
import Derived.Test.YtiljojpnbpdaeaaSrt
namespace Go.Proofs.Ytiljojpnbpdaeaa
open Go.RowKit
set_option maxRecDepth 100000 in
set_option maxHeartbeats 1000000 in
theorem stable_any (g n c : Nat) (xs : List Int) (G : Nat) (lb : Array Value) (cf : Int → Int → Int) (eg : ∀ args w, (callFunc G args).run Try.prog w = .ok (.enter G args) w) (base : Nat) (w : World) (ho : w.ownsRow base 3 1 (.slice (some ⟨g, 0, none⟩) n c) n (ints xs)) (hn : n ≤ 12) (hp : Hid (Cmp G lb cf xs w g)) :
    Calls Try.prog 76 #[.slice (some ⟨g, 0, none⟩) n c, .int .i64 n, .func (.func G) #[] lb] w
      fun e w' => e = .returned (.tuple #[]) ∧ w'.ownsRow base 3 1 (.slice (some ⟨g, 0, none⟩) n c) n (ints (isort (ltOf cf) xs)) ∧ Mut w w' [g] := by
  have h1 : ¬ ((20 : Int) ≤ n) := by omega
  have h2 : ¬ ((20 : Int) < n) := by omega
  go_enter Try.func76, Try.ntmps76
  go_wp2
  refine wp_loop_once ?_
  go_wp2_with (go_at_call 114; refine (insSort_any g n c xs G lb cf eg base _ ho hn hp).mono ?_; rintro e w1 ⟨rfl, ho1, hM⟩)
  refine wp_loop_once ?_
  go_wp2
  go_end0
  exact ⟨rfl, ho1, hM⟩
set_option maxRecDepth 100000 in
set_option maxHeartbeats 1000000 in
theorem sortStable_any (g n c : Nat) (xs : List Int) (G : Nat) (lb : Array Value) (cf : Int → Int → Int) (eg : ∀ args w, (callFunc G args).run Try.prog w = .ok (.enter G args) w) (base : Nat) (w : World) (ho : w.ownsRow base 3 1 (.slice (some ⟨g, 0, none⟩) n c) n (ints xs)) (hn : n ≤ 12) (hp : Hid (Cmp G lb cf xs w g)) :
    Calls Try.prog 40 #[.slice (some ⟨g, 0, none⟩) n c, .func (.func G) #[] lb] w
      fun e w' => e = .returned (.tuple #[]) ∧ w'.ownsRow base 3 1 (.slice (some ⟨g, 0, none⟩) n c) n (ints (isort (ltOf cf) xs)) ∧ Mut w w' [g] := by
  go_enter Try.func40, Try.ntmps40
  go_wp2_with (go_at_call 76; refine (stable_any g n c xs G lb cf eg base _ ho hn hp).mono ?_; rintro e w1 ⟨rfl, ho1, hM⟩)
  go_end0
  exact ⟨rfl, ho1, hM⟩
end Go.Proofs.Ytiljojpnbpdaeaa
