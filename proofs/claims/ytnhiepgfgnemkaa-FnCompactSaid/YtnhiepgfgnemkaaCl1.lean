/- w5Positions; and PLAIN: no arrangement that keeps the list has a smaller position than the compacted one. -/
import Derived.Test.YtnhiepgfgnemkaaDic
namespace Go.Proofs.Ytnhiepgfgnemkaa
open Go.RowKit

theorem xA_nonneg {xs : List Int} (h : xsOk xs = true) (i : Int) : 0 ≤ xA xs i := by
  rw [xsOk, List.all_eq_true] at h
  rw [xA, List.getD_eq_getElem?_getD]
  cases hx : xs[i.toNat]? with
  | none => exact Int.le_refl _
  | some x => exact (wit_iff.1 (h x (List.mem_of_getElem? hx))).1
theorem comp_least {l : List Q4} {g : Int} {xs : List Int} (h : compB l g xs = true) : xs.length = l.length ∧ ∀ i : Nat, i < l.length → posF l g i ≤ xA xs i := by
  simp only [compB, validXsB, Bool.and_eq_true, decide_eq_true_eq, Bool.not_eq_true'] at h
  obtain ⟨-, ⟨hlen, hok⟩, hany⟩ := h
  refine ⟨hlen, fun i hi => ?_⟩
  have h1 := congrArg (fun t => xA t i) (pos_rnds (l := l) (g := g) (n := l.length) rfl)
  simp only [xA_tab _ hi] at h1
  rw [← h1]
  refine rnds_upper (S := fun _ => True) (U := xA xs) (fun j _ => xA_nonneg hok j) (fun e he => ⟨trivial, ?_⟩) _ _ trivial
  rw [List.any_eq_false] at hany
  have := hany e he
  simp [badC] at this
  omega
set_option maxRecDepth 100000 in
set_option maxHeartbeats 1000000 in
theorem w5Positions_any (q : Option Addr) (n c : Nat) (l : List Q4) (w : World) (h : SlT enc4 4 w q n l) (hn : n ≤ 1048576) :
    Calls Try.prog 44 #[.slice q n c] w fun e w' => ∃ p d, e = .returned (.slice p n d) ∧ w'.ownsRow w.heap.size 2 1 (.slice p n d) n (ints (l.map (·.a))) ∧ Ext w w' := by
  obtain ⟨i0, hi, hz0, hz1, hz2⟩ := info_parts info_Int64
  have hln := hid h.length
  go_enter Try.func44, Try.ntmps44
  go_wp2_with fail
  have ho0 : (w.alloc (.cells #[] 2)).ownsRow w.heap.size 2 1 (.slice (some ⟨w.heap.size, 0, none⟩) 0 0) 0 [] := by
    have := World.ownsRow_made (base := w.heap.size) (e := 2) (size := 1) w #[] 0 (by simp) (by simp [maxLen]) (by simp)
    exact this
  have hX0 := (Ext.refl w).alloc (.cells #[] 2)
  go_loopw [3, 4] (fun v i wr => ∃ k : Nat, k ≤ n ∧ i = .int .i64 k ∧ Ext w wr ∧ wr.ownsRow w.heap.size 2 1 v k (ints ((l.take k).map (·.a)))) (fun _ i _ => n - (intOf i).toNat)
  case atStart => exact ⟨0, by omega, rfl, hX0, ho0⟩
  case round =>
    clear ho0 hX0
    obtain ⟨k, hk, rfl, hX, ho⟩ := hrel
    by_cases hkn : k < n
    · have hkI : (k : Int) < n := by omega
      obtain ⟨b, off, x, rfl, hb, hx, m0, m1, m2, m3⟩ := h.four hkn
      replace m0 := (hX.cells _ _ hb).trans m0
      have hbr : b < wr.heap.size := by have := hX.le; omega
      clear m1 m2 m3
      have hbase : w.heap.size ≤ (wr.alloc (.cells #[.int .i64 x.a] 2)).heap.size := by have := hX.le; simp; omega
      have htk : Hid ((l.take (k + 1)).map (·.a) = (l.take k).map (·.a) ++ [x.a]) := by show _ = _; rw [List.take_add_one, hx.out, List.map_append]; rfl
      go_wp2_with (at_builtin; refine wpList_append_own_at (o := ⟨some 19, _, _, _, _, _⟩) _ rfl _ _ 23 rfl w.heap.size 2 i0 (.int .i64 0) 1 8 Try.underlying23 hi hz0 hz1 hz2 rfl (by omega) _ _ _ rfl (ho.alloc _) ⟨wr.heap.size, 0, none⟩ 1 1 [.int .i64 x.a] rfl rfl (cells_new1 _ _ _) (one_int1 _) (len_le (by omega) (by omega)) (by omega) hbase ?_; intro v' wA hoA hgA hnA hbA)
      go_roundw
      case rel => exact ⟨k + 1, by omega, by go_num, (hX.alloc (.cells #[.int .i64 x.a] 2)).grown hgA (fun b hb => (ho.lt b hb).1), by rw [htk.out, ints, List.map_append]; exact hoA⟩
      case measure => simp [intOf]; omega
    · have hkn' : k = n := by omega
      subst hkn'
      obtain ⟨pv, cv, rfl⟩ := owns_forms ho
      go_wp2_with fail
      go_ret
      exact ⟨pv, cv, rfl, by rw [List.take_of_length_le (by rw [hln.out]; omega)] at ho; exact ho, hX⟩
end Go.Proofs.Ytnhiepgfgnemkaa
