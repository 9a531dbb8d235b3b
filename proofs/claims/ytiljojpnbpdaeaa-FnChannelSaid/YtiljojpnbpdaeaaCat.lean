/- Contracts of slices.Grow of a nil slice and slices.Concat of two slices of int64. Condition: at most 2^20 elements each. -/
import Derived.Test.YtiljojpnbpdaeaaArr
import Derived.Test.YtiljojpnbpdaeaaOpn
import Derived.Lib.AppendZeros
import Derived.Laws.AppendOwnNone
namespace Go.Proofs.Ytiljojpnbpdaeaa
open Go.RowKit

set_option maxRecDepth 100000 in
set_option maxHeartbeats 400000 in
theorem Grow_nil (n : Nat) (w : World) (hn : n ≤ 2097152) :
    Calls Try.prog 113 #[.slice none 0 0, .int .i64 n] w fun e w' => ∃ v, e = .returned v ∧ w'.ownsRow w.heap.size 2 1 v 0 [] ∧ Ext w w' := by
  obtain ⟨i0, hi, hz0, hz1, hz2⟩ := info_parts info_Int64
  by_cases h0 : n = 0
  · subst h0
    go_enter Try.func113, Try.ntmps113
    go_wp2
    go_ret
    exact ⟨_, rfl, World.ownsRow_nil _ _ _ _, Ext.refl _⟩
  · have hr := fun ty => Lib.run_append_nil_zeros (P := Try.prog) w 22 3 ty 2 i0 (.int .i64 0) .i64 .i64 Try.underlying22 Try.underlying3 hi hz0 n (by omega) (by omega) (by omega) (by rw [hz2]; omega)
    have hp : (0 : Int) < n := by omega
    go_enter Try.func113, Try.ntmps113
    go_wp2_with (refine Lib.wpList_append_run _ rfl _ _ 22 3 rfl _ _ rfl rfl _ _ (hr _) ?_)
    go_ret
    have hge := grownCap_ge w n 0 2
    have hle := grownCap_le_maxLen w n 0 2 (by unfold maxLen; omega)
    refine ⟨_, rfl, World.ownsRow_made (w := w.drew) _ _ (Nat.le_refl _) hle ?_, ((Ext.refl _).drew).alloc _⟩
    simp [Builtin.zeroCells]
    omega
theorem owns_forms {w : World} {base size n : Nat} {e : TypeId} {v : Value} {xs : List Value} (h : w.ownsRow base e size v n xs) : ∃ q c, v = .slice q n c := by
  rcases Joins.ownsRow_forms h with ⟨rfl, rfl⟩ | ⟨g, c, rfl⟩
  · exact ⟨_, _, rfl⟩
  · exact ⟨_, _, rfl⟩
theorem flat1 (l : List Int) : l.flatMap enc1 = l.map (Value.int .i64) := by
  induction l with
  | nil => rfl
  | cons x l ih => rw [List.flatMap_cons, ih]; rfl
/-- The cells of a slice that reads as a list of int64s. -/
theorem SlT.news {w : World} {ad : Addr} {n : Nat} {l : List Int} (h : SlT enc1 1 w (some ad) n l) : ∀ j u, (l.flatMap enc1)[j]? = some u → w.cell? (ad.add j) = some u := by
  intro j u hj
  rw [flat1, List.getElem?_map] at hj
  obtain ⟨x, hx, rfl⟩ := Option.map_eq_some_iff.1 hj
  obtain ⟨h1, h2⟩ := h
  rcases h2 with h2 | ⟨b', off', hp, _, hc⟩
  · subst h2
    rw [List.eq_nil_of_length_eq_zero h1] at hx
    cases hx
  · cases hp
    have := hc j x hx 0 _ rfl
    rw [Addr.add_lit]
    simpa using this
theorem one_flat1 (l : List Int) : ∀ u ∈ l.flatMap enc1, u.oneCell' = true := by
  intro u hu
  rw [flat1, List.mem_map] at hu
  obtain ⟨x, _, rfl⟩ := hu
  rfl
set_option maxRecDepth 100000 in
set_option maxHeartbeats 400000 in
/-- Concat of two slices. -/
theorem Concat2 (B : Nat) (p1 p2 : Option Addr) (n1 n2 c1 c2 : Nat) (l1 l2 : List Int) (w : World) (hB : B < w.heap.size) (e1 : w.cell? ⟨B, 0, none⟩ = some (.slice p1 n1 c1)) (e2 : w.cell? ⟨B, 1, none⟩ = some (.slice p2 n2 c2))
    (h1 : SlT enc1 1 w p1 n1 l1) (h2 : SlT enc1 1 w p2 n2 l2) (hn1 : n1 ≤ 1048576) (hn2 : n2 ≤ 1048576) (k1 : Hid (p1 = none → n1 = 0 ∧ c1 = 0)) (k2 : Hid (p2 = none → n2 = 0 ∧ c2 = 0)) :
    Calls Try.prog 74 #[.slice (some ⟨B, 0, none⟩) 2 2] w fun e w' => ∃ q c, e = .returned (.slice q (n1 + n2) c) ∧ w'.ownsRow w.heap.size 2 1 (.slice q (n1 + n2) c) (n1 + n2) ((l1 ++ l2).flatMap enc1) ∧ Ext w w' := by
  obtain ⟨i0, hi, hz0, hz1, hz2⟩ := info_parts info_Int64
  have L1 := hid h1.length
  have L2 := hid h2.length
  go_enter Try.func74, Try.ntmps74
  go_wp2
  go_loop [3, 5, 11] (fun s r i => (i = .int .i64 0 ∧ s = .int .i64 0) ∨ (i = .int .i64 1 ∧ s = .int .i64 n1) ∨ (i = .int .i64 2 ∧ s = .int .i64 ((n1 : Int) + n2))) (fun _ _ i => 2 - (intOf i).toNat)
  case atStart => exact Or.inl ⟨rfl, rfl⟩
  case round =>
    rcases hrel with ⟨rfl, rfl⟩ | ⟨rfl, rfl⟩ | ⟨rfl, rfl⟩
    · go_wp2
      go_round
      case rel => exact Or.inr (Or.inl ⟨rfl, rfl⟩)
      case measure => simp [intOf]
    · go_wp2
      go_round
      case rel => exact Or.inr (Or.inr ⟨rfl, rfl⟩)
      case measure => simp [intOf]
    · go_wp2_with fail
      have := Grow_nil (n1 + n2) w (by omega)
      rw [Int.natCast_add] at this
      refine this.mono ?_
      rintro e wg ⟨v, rfl, ho, hE⟩
      go_wp2
      go_loopw [6, 8, 27] (fun s _ i wr => Ext w wr ∧ ((i = .int .i64 0 ∧ wr.ownsRow w.heap.size 2 1 s 0 []) ∨ (i = .int .i64 1 ∧ wr.ownsRow w.heap.size 2 1 s n1 (l1.flatMap enc1)) ∨ (i = .int .i64 2 ∧ wr.ownsRow w.heap.size 2 1 s (n1 + n2) ((l1 ++ l2).flatMap enc1)))) (fun _ _ i _ => 2 - (intOf i).toNat)
      case atStart => exact ⟨hE, Or.inl ⟨rfl, ho⟩⟩
      case round =>
        clear ho hE
        obtain ⟨hE, ⟨rfl, ho⟩ | ⟨rfl, ho⟩ | ⟨rfl, ho⟩⟩ := hrel
        · have g1 := (hE.cells _ _ hB).trans e1
          clear e1 e2
          cases p1 with
          | none =>
            have zz : Hid (n1 = 0 ∧ c1 = 0 ∧ l1 = []) := ⟨(k1.out rfl).1, (k1.out rfl).2, List.eq_nil_of_length_eq_zero (L1.out.trans (k1.out rfl).1)⟩
            go_wp2_with (at_builtin; refine wpList_append_own_none rfl _ _ 22 rfl w.heap.size 2 i0 1 Try.underlying22 hi u6 _ _ rfl ho (show Value.slice none n1 c1 = _ from by rw [zz.out.1, zz.out.2.1]) ?_)
            go_roundw
            case rel => exact ⟨hE, Or.inr (Or.inl ⟨rfl, by rw [zz.out.1, zz.out.2.2]; exact ho⟩)⟩
            case measure => simp [intOf]
          | some ad =>
            have hnw := (h1.ext hE).news
            go_wp2_with (at_builtin; refine wpList_append_own _ rfl _ _ 22 rfl w.heap.size 2 i0 (.int .i64 0) 1 8 Try.underlying22 hi hz0 hz1 hz2 rfl (by omega) u6 _ _ rfl ho ad n1 c1 (l1.flatMap enc1) rfl (by rw [flatMap_len enc1_len, L1.out]) hnw (one_flat1 _) (by unfold maxLen; omega) (by omega) hE.le ?_; intro v' w1 ho' hg _)
            go_roundw
            case rel => exact ⟨hE.grown hg (fun k hk => (ho.lt k hk).1), Or.inr (Or.inl ⟨rfl, by simpa using ho'⟩)⟩
            case measure => simp [intOf]
        · have g1 := (hE.cells _ _ hB).trans e2
          clear e1 e2
          cases p2 with
          | none =>
            have zz : Hid (n2 = 0 ∧ c2 = 0 ∧ l2 = []) := ⟨(k2.out rfl).1, (k2.out rfl).2, List.eq_nil_of_length_eq_zero (L2.out.trans (k2.out rfl).1)⟩
            go_wp2_with (at_builtin; refine wpList_append_own_none rfl _ _ 22 rfl w.heap.size 2 i0 1 Try.underlying22 hi u6 _ _ rfl ho (show Value.slice none n2 c2 = _ from by rw [zz.out.1, zz.out.2.1]) ?_)
            go_roundw
            case rel => exact ⟨hE, Or.inr (Or.inr ⟨rfl, by rw [zz.out.1, zz.out.2.2, List.append_nil]; exact ho⟩)⟩
            case measure => simp [intOf]
          | some ad =>
            have hnw := (h2.ext hE).news
            go_wp2_with (at_builtin; refine wpList_append_own _ rfl _ _ 22 rfl w.heap.size 2 i0 (.int .i64 0) 1 8 Try.underlying22 hi hz0 hz1 hz2 rfl (by omega) u6 _ _ rfl ho ad n2 c2 (l2.flatMap enc1) rfl (by rw [flatMap_len enc1_len, L2.out]) hnw (one_flat1 _) (by unfold maxLen; omega) (by omega) hE.le ?_; intro v' w1 ho' hg _)
            go_roundw
            case rel => exact ⟨hE.grown hg (fun k hk => (ho.lt k hk).1), Or.inr (Or.inr ⟨rfl, by rw [List.flatMap_append]; exact ho'⟩)⟩
            case measure => simp [intOf]
        · obtain ⟨q, c, rfl⟩ := owns_forms ho
          go_wp2
          go_ret
          exact ⟨_, _, rfl, ho, hE⟩
end Go.Proofs.Ytiljojpnbpdaeaa
