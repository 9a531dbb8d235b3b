/- Contract of slices.SortStableFunc at []int, at most 12 elements: insertion sort, whatever comparison that only makes memory. Condition: at most 12 elements. -/
import Derived.Test.YtiljojpnbpdaeaaSrp
import Derived.Test.YtiljojpnbpdaeaaMrk
import Derived.Shelf.Abstract
import Derived.BigRegion
namespace Go.Proofs.Ytiljojpnbpdaeaa
open Go.RowKit

/-- What is asked of a comparison: on the elements, in every world that is w but for block g and new memory, it answers cf. -/
def Cmp (G : Nat) (lb : Array Value) (cf : Int → Int → Int) (xs : List Int) (w : World) (g : Nat) : Prop :=
  ∀ (W : World) (x y : Int), x ∈ xs → y ∈ xs → Mut w W [g] → Calls Try.prog G (#[.int .i64 x, .int .i64 y] ++ lb) W fun e w' => e = .returned (.int .i64 (cf x y)) ∧ Ext W w'
def ltOf (cf : Int → Int → Int) (x y : Int) : Bool := decide (cf x y < 0)
def ints (xs : List Int) : List Value := xs.map (Value.int .i64)

theorem Mut.drew {a b : World} {S : List Nat} (h : Mut a b S) : Mut a b.drew S := ⟨h.os, h.tape, h.output, h.size, h.block⟩
theorem ints_mid0 {P R : List Int} {j : Nat} {y x : Int} (h : P.length = j) : (ints (P ++ ([y] ++ x :: R)))[j]? = some (.int .i64 y) := by
  rw [ints, List.getElem?_map, List.getElem?_append_right (by omega), h, Nat.sub_self]; rfl
theorem ints_mid1 {P R : List Int} {j : Nat} {y x : Int} (h : P.length = j) : (ints (P ++ ([y] ++ x :: R)))[j + 1]? = some (.int .i64 x) := by
  rw [ints, List.getElem?_map, List.getElem?_append_right (by omega), h, Nat.add_sub_cancel_left]; rfl
theorem ints_swap {P R : List Int} {j : Nat} {y x : Int} (h : P.length = j) : ((ints (P ++ ([y] ++ x :: R))).set (j + 1) (.int .i64 y)).set j (.int .i64 x) = ints (P ++ x :: y :: R) := by
  have hl : (P.map (Value.int .i64)).length = j := by simpa using h
  simp only [ints, List.map_append, List.map_cons, List.singleton_append]
  rw [List.set_append_right _ _ (by omega), hl, Nat.add_sub_cancel_left, List.set_append_right _ _ (by omega), hl, Nat.sub_self]
  rfl
theorem isort_start (lt : Int → Int → Bool) (xs : List Int) : isort lt (xs.take 1) ++ xs.drop 1 = xs := by cases xs <;> rfl
set_option maxRecDepth 100000 in
set_option maxHeartbeats 1000000 in
theorem insSort_any (g n c : Nat) (xs : List Int) (G : Nat) (lb : Array Value) (cf : Int → Int → Int) (eg : ∀ args w, (callFunc G args).run Try.prog w = .ok (.enter G args) w) (base : Nat) (w : World) (ho : w.ownsRow base 3 1 (.slice (some ⟨g, 0, none⟩) n c) n (ints xs)) (hn : n ≤ 12) (hp : Hid (Cmp G lb cf xs w g)) :
    Calls Try.prog 114 #[.slice (some ⟨g, 0, none⟩) n c, .int .i64 0, .int .i64 n, .func (.func G) #[] lb] w
      fun e w' => e = .returned (.tuple #[]) ∧ w'.ownsRow base 3 1 (.slice (some ⟨g, 0, none⟩) n c) n (ints (isort (ltOf cf) xs)) ∧ Mut w w' [g] := by
  have hl : Hid (xs.length = n) := by have := ho.1; simp [ints] at this; exact this
  have hnI : (n : Int) ≤ 12 := by omega
  go_enter Try.func114, Try.ntmps114
  go_wp2
  go_loopw [8] (fun i wr => ∃ k : Nat, 1 ≤ k ∧ (k ≤ n ∨ k = 1) ∧ i = .int .i64 k ∧ Mut w wr [g] ∧ wr.ownsRow base 3 1 (.slice (some ⟨g, 0, none⟩) n c) n (ints (isort (ltOf cf) (xs.take k) ++ xs.drop k))) (fun i _ => n + 1 - (intOf i).toNat)
  case atStart => exact ⟨1, by omega, by omega, rfl, Mut.refl _ _, by rw [isort_start]; exact ho⟩
  case round =>
    obtain ⟨k, hk1, hk2, rfl, hM, hr⟩ := hrel
    by_cases hlt : k < n
    · have hltI : (k : Int) < n := by omega
      obtain ⟨x, hx⟩ : ∃ x, xs[k]? = some x := ⟨_, List.getElem?_eq_getElem (by rw [hl.out]; exact hlt)⟩
      obtain ⟨A, hA⟩ : ∃ A, A = isort (ltOf cf) (xs.take k) := ⟨_, rfl⟩
      have hAl : Hid (A.length = k) := by show _ = _; rw [hA, isort_len, List.length_take, hl.out]; omega
      have hAm : Hid (∀ y ∈ A, y ∈ xs) := fun y hy => by rw [hA] at hy; exact List.mem_of_mem_take ((isort_perm _ _).mem_iff.1 hy)
      have hnext : Hid (isort (ltOf cf) (xs.take (k + 1)) = insB (ltOf cf) A x) := by show _ = _; rw [take_snoc hx, isort_snoc, hA]
      have hdrop : Hid (xs.drop k = x :: xs.drop (k + 1)) := by
        obtain ⟨h1, rfl⟩ := List.getElem?_eq_some_iff.1 hx
        exact List.drop_eq_getElem_cons h1
      have hxm := hid (List.mem_of_getElem? hx)
      rw [← hA, hdrop.out] at hr
      clear hA hx
      obtain ⟨Bk, hBk⟩ : ∃ Bk, Bk = xs.drop (k + 1) := ⟨_, rfl⟩
      rw [← hBk] at hr
      clear hdrop
      replace hBk := hid hBk
      go_wp2
      go_loopw [9] (fun jj wr => ∃ j : Nat, j ≤ k ∧ jj = .int .i64 j ∧ Mut w wr [g] ∧ wr.ownsRow base 3 1 (.slice (some ⟨g, 0, none⟩) n c) n (ints (A.take j ++ x :: (A.drop j ++ Bk))) ∧ Hid (∀ y ∈ A.drop j, ltOf cf x y = true)) (fun jj _ => (intOf jj).toNat)
      case atStart =>
        refine ⟨k, by omega, rfl, hM, ?_, fun y hy => ?_⟩
        · rw [List.take_of_length_le (by rw [hAl.out]; exact Nat.le_refl _), List.drop_eq_nil_of_le (by rw [hAl.out]; exact Nat.le_refl _)]; exact hr
        · rw [List.drop_eq_nil_of_le (by rw [hAl.out]; exact Nat.le_refl _)] at hy; cases hy
      case round =>
        clear hM hr
        obtain ⟨j, hj, rfl, hM, hr, hP⟩ := hrel
        cases j with
        | zero =>
          have hfin : Hid (insB (ltOf cf) A x = x :: A) := by
            show _ = _
            have := insB_split (lt := ltOf cf) (x := x) (A1 := []) (A2 := A) (by simpa using hP.out) (Or.inl rfl)
            simpa using this
          simp only [List.take_zero, List.drop_zero, List.nil_append] at hr
          rw [show ((0 : Nat) : Int) = 0 from rfl]
          go_wp2_with fail
          refine wp_region_later (by kernel_rfl) (by kernel_rfl) ?_
          repeat (go_big_quiet_step (fail))
          refine wpQuiet_nil ?_
          rintro w7 ⟨⟨_, h7⟩, rfl⟩
          go_wp2
          go_roundw
          case rel =>
            refine ⟨k + 1, by omega, by omega, by go_num, hM.same (h7.mut [g]), ?_⟩
            rw [hnext.out, hfin.out, ← hBk.out]
            exact owns_ext hr h7
          case measure => simp [intOf]; omega
        | succ j =>
          obtain ⟨y, hy⟩ : ∃ y, A[j]? = some y := ⟨_, List.getElem?_eq_getElem (by rw [hAl.out]; omega)⟩
          have hym := hid (hAm.out y (List.mem_of_getElem? hy))
          have htk := hid (take_snoc hy)
          have hdr : Hid (A.drop j = y :: A.drop (j + 1)) := by
            obtain ⟨h1, rfl⟩ := List.getElem?_eq_some_iff.1 hy
            exact List.drop_eq_getElem_cons h1
          have htl : Hid ((A.take j).length = j) := by show _ = _; rw [List.length_take, hAl.out]; omega
          rw [htk.out, List.append_assoc] at hr
          clear hy
          have c0 : wr.cell? ⟨g, j, none⟩ = some (.int .i64 y) := by rw [hr.cellAt _ (by omega)]; exact ints_mid0 htl.out
          have c1 : wr.cell? ⟨g, j + 1, none⟩ = some (.int .i64 x) := by rw [hr.cellAt _ (by omega)]; exact ints_mid1 htl.out
          have hf := owns_free hr
          have hgl := (owns_lt hr).2
          have hjn : (j : Int) + 1 < n := by omega
          have hjn2 : (j : Int) < n := by omega
          have hcall : ∀ p : Later wr, Calls Try.prog G (#[.int .i64 x, .int .i64 y] ++ lb) p.val fun e w' => e = .returned (.int .i64 (cf x y)) ∧ Ext p.val w' := fun p => hp.out p.val x y hxm.out hym.out (hM.same (p.ok.mut [g]))
          have hwr1 : IntKind.i64.wrap ((j : Int) + 1 - 1) = j := by rw [IntKind.wrap_i64]; omega
          rw [Int.natCast_add, show ((1 : Nat) : Int) = 1 from rfl]
          by_cases hcf : cf x y < 0
          · go_wp2_with fail
            refine wp_region_later (by kernel_rfl) (by kernel_rfl) ?_
            repeat (go_big_quiet_step ((go_at_fn G; exact later_of (hcall _))))
            refine wpQuiet_nil ?_
            rintro w7 ⟨⟨_, h7⟩, rfl⟩
            have hr7 := owns_ext hr h7
            have M7 := hM.same (h7.mut [g])
            have c0' := (h7.cells _ _ hgl).trans c0
            have c1' := (h7.cells _ _ hgl).trans c1
            have hf' := owns_free hr7
            have hP' : Hid (∀ y' ∈ A.drop j, ltOf cf x y' = true) := fun y' hy' => by
              rw [hdr.out] at hy'
              rcases List.mem_cons.1 hy' with rfl | hy'
              · simp [ltOf, hcf]
              · exact hP.out y' hy'
            clear c0 c1 hf hcall hgl
            go_wp2
            go_region
            go_wp2
            go_roundw
            case rel =>
              refine ⟨j, by omega, by go_num, ?_, ?_, hP'⟩
              · exact Mut.drew ((M7.setCell (p := ⟨g, _, none⟩) (by simp) _).setCell (p := ⟨g, _, none⟩) (by simp) _)
              · have hsw := owns_set (owns_set hr7 (j + 1) (.int .i64 y)) j (.int .i64 x)
                rw [ints_swap htl.out] at hsw
                rw [hdr.out]
                exact hsw
            case measure => simp [intOf]
          · have hfin : Hid (insB (ltOf cf) A x = A.take j ++ y :: x :: A.drop (j + 1)) := by
              show _ = _
              have := insB_split (lt := ltOf cf) (x := x) (A1 := A.take (j + 1)) (A2 := A.drop (j + 1)) hP.out (Or.inr ⟨A.take j, y, htk.out, by simp [ltOf, hcf]⟩)
              rw [List.take_append_drop, htk.out] at this
              simpa using this
            go_wp2_with fail
            refine wp_region_later (by kernel_rfl) (by kernel_rfl) ?_
            repeat (go_big_quiet_step ((go_at_fn G; exact later_of (hcall _))))
            refine wpQuiet_nil ?_
            rintro w7 ⟨⟨_, h7⟩, rfl⟩
            go_wp2
            go_roundw
            case rel =>
              refine ⟨k + 1, by omega, by omega, by go_num, hM.same (h7.mut [g]), ?_⟩
              rw [hnext.out, hfin.out, ← hBk.out]
              have := owns_ext hr h7
              simpa using this
            case measure => simp [intOf]; omega
    · have hfin : Hid (isort (ltOf cf) (xs.take k) ++ xs.drop k = isort (ltOf cf) xs) := by
        show _ = _
        rw [take_all hl.out (by omega), List.drop_eq_nil_of_le (by rw [hl.out]; omega), List.append_nil]
      rw [hfin.out] at hr
      go_wp2
      go_end0
      exact ⟨rfl, hr, hM⟩
end Go.Proofs.Ytiljojpnbpdaeaa
