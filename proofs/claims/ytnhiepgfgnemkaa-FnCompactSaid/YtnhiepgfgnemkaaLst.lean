/- Contract of l31Least (reference): enough rounds of relaxing along all edges. Condition: edges within the nodes, at most 144 of them, distances from 0 to 48. -/
import Derived.Test.YtnhiepgfgnemkaaStp
import Derived.Test.YtnhiepgfgnemkaaCst
import Derived.StillTailTactics
namespace Go.Proofs.Ytnhiepgfgnemkaa
open Go.RowKit

/-- Edges within n nodes, with small distances. -/
def EdgesOk (E : List Q3) (n : Nat) : Prop := ∀ e ∈ E, (∃ i : Nat, e.a = i ∧ i < n) ∧ (∃ i : Nat, e.b = i ∧ i < n) ∧ 0 ≤ e.c ∧ e.c ≤ 48
theorem foldl_snoc {α β : Type} (g : β → α → β) (b : β) {l : List α} {k : Nat} {x : α} (h : l[k]? = some x) : (l.take (k + 1)).foldl g b = g ((l.take k).foldl g b) x := by
  rw [take_snoc h, List.foldl_append]; rfl

set_option maxRecDepth 100000 in
set_option maxHeartbeats 2000000 in
theorem l31Least_any (n m c : Nat) (low : Int) (q : Option Addr) (E : List Q3) (w : World) (h : SlT enc3 3 w q m E) (hn : n ≤ 12) (hm : m ≤ 144) (hE : EdgesOk E n) (hl0 : 0 ≤ low) (hl1 : low ≤ 8) :
    Calls Try.prog 64 #[.int .i64 n, .int .i64 low, .slice q m c] w fun e w' => ∃ q c, e = .returned (.slice q n c) ∧ w'.ownsRow w.heap.size 2 1 (.slice q n c) n (ints (tab n (rnds E (fun _ => low) (n + 1)))) ∧ Ext w w' := by
  obtain ⟨i0, hi, hz0, hz1, hz2⟩ := info_parts info_Int64
  have hE := hid hE
  have hnI : (n : Int) ≤ 12 := by omega
  have l1 := hid h.length
  go_enter Try.func64, Try.ntmps64
  go_wp2
  have ho0 : (w.alloc (.cells #[] 2)).ownsRow w.heap.size 2 1 (.slice (some ⟨w.heap.size, 0, none⟩) 0 0) 0 [] := by
    have := World.ownsRow_made (base := w.heap.size) (e := 2) (size := 1) w #[] 0 (by simp) (by simp [maxLen]) (by simp)
    exact this
  go_loopw [7, 8] (fun v i wr => ∃ k : Nat, k ≤ n ∧ i = .int .i64 k ∧ Ext w wr ∧ v ≠ .slice none 0 0 ∧ wr.ownsRow w.heap.size 2 1 v k (ints (tab k (fun _ => low)))) (fun _ i _ => n - (intOf i).toNat)
  case atStart => exact ⟨0, by omega, rfl, (Ext.refl _).alloc _, by simp, ho0⟩
  case round =>
    clear ho0
    obtain ⟨k, hk, rfl, hX, hv, ho⟩ := hrel
    by_cases hkn : k < n
    · have hkI : (k : Int) < n := by omega
      have hr : Hid (tab (k + 1) (fun _ => low) = tab k (fun _ => low) ++ [low]) := by show _ = _; rw [tab, upto_snoc, List.map_append]; rfl
      go_wp2_with (at_builtin; refine wpList_append_own _ rfl _ _ 23 rfl w.heap.size 2 i0 _ 1 8 Try.underlying23 hi hz0 hz1 hz2 rfl (by omega) _ _ _ rfl (ho.alloc _) ⟨wr.heap.size, 0, none⟩ 1 1 [.int .i64 low] rfl rfl (cells_new1 _ _ _) (one_int1 _) (len_le (by omega) (by omega)) (by omega) ?c5 ?_; rotate_left 1; intro v' w1 ho' hg hnil)
      case c5 => have := hX.le; simp; omega
      go_roundw
      case rel =>
        refine ⟨k + 1, by omega, by go_num, (hX.alloc _).grown hg (fun k hk => (ho.lt k hk).1), fun hh => ?_, ?_⟩
        · have := (hnil.1 hh).2; omega
        · rw [hr.out, ints, List.map_append]; exact ho'
      case measure => simp [intOf]; omega
    · have hkn' : k = n := by omega
      subst hkn'
      clear hkn
      obtain ⟨g, c', rfl⟩ := owns_some2 ho hv
      clear hv
      have hgl := owns_lt ho
      have hb0 : Hid (Btw (rnds E (fun _ => low) 0) 0 (8 + 48 * (144 * (0 : Nat)))) := fun i => by show 0 ≤ low ∧ low ≤ _; omega
      go_wp2
      go_loopw [9] (fun r wb => ∃ t : Nat, t ≤ k + 1 ∧ r = .int .i64 t ∧ Ext w wb ∧ wb.ownsRow w.heap.size 2 1 (.slice (some ⟨g, 0, none⟩) k c') k (ints (tab k (rnds E (fun _ => low) t))) ∧ Hid (Btw (rnds E (fun _ => low) t) 0 (8 + 48 * (144 * t)))) (fun r _ => k + 1 - (intOf r).toNat)
      case atStart => exact ⟨0, by omega, rfl, hX, ho, hb0⟩
      case round =>
        clear ho hb0 hX
        obtain ⟨t, ht, rfl, hX, ho, hb⟩ := hrel
        by_cases htk : t ≤ k
        · obtain ⟨F, hF⟩ : ∃ F, F = rnds E (fun _ => low) t := ⟨_, rfl⟩
          rw [← hF] at ho hb
          replace hF := hid hF
          go_wp2
          go_loopw [10] (fun r wc => ∃ j : Nat, j ≤ m ∧ r = .int .i64 j ∧ Ext w wc ∧ wc.ownsRow w.heap.size 2 1 (.slice (some ⟨g, 0, none⟩) k c') k (ints (tab k ((E.take j).foldl rlx F))) ∧ Hid (Btw ((E.take j).foldl rlx F) 0 (8 + 48 * (144 * t + j)))) (fun r _ => m - (intOf r).toNat)
          case atStart => exact ⟨0, by omega, rfl, hX, ho, hb⟩
          case round =>
            clear ho hb hX
            obtain ⟨j, hj, rfl, hX, ho, hb⟩ := hrel
            by_cases hjm : j < m
            · obtain ⟨b, off, x, rfl, hbl, hx, x0, x1, x2⟩ := (h.ext hX).three hjm
              obtain ⟨G, hG⟩ : ∃ G, G = (E.take j).foldl rlx F := ⟨_, rfl⟩
              have hnx := hid (foldl_snoc rlx F hx.out)
              rw [← hG] at ho hb hnx
              replace hG := hid hG
              obtain ⟨⟨A, hA, hAk⟩, ⟨B, hB, hBk⟩, hc0, hc1⟩ := hE.out x (List.mem_of_getElem? hx.out)
              rw [hA] at x0
              rw [hB] at x1
              have hbx := hid (hb.out.rlx hc0 hc1)
              have hA := hid hA
              have hB := hid hB
              have r0 := tab_cell ho hAk
              have r1 := tab_cell ho hBk
              have hAI : (A : Int) < k := by omega
              have hBI : (B : Int) < k := by omega
              have hjI : (j : Int) < m := by omega
              have hGA := hb.out A
              have hGB := hb.out B
              have hGA0 : 0 ≤ G A := hGA.1
              have hGA1 : G A ≤ 8 + 48 * (144 * t + j) := hGA.2
              have hGB0 : 0 ≤ G B := hGB.1
              have hGB1 : G B ≤ 8 + 48 * (144 * t + j) := hGB.2
              clear hGA hGB
              have fz := owns_free ho
              go_wp2_with fail
              refine wp_region_still_tail 30 (by kernel_rfl) (by kernel_rfl) ?_
              simp only [List.take_succ_cons, List.take_zero, List.drop_succ_cons, List.drop_zero]
              iterate 30 still_step
              refine wpStill_nil ?_
              change wpList _ _ _ _ _ wr.drew
              go_wp2
              go_roundw
              case rel =>
                refine ⟨j + 1, by omega, by go_num, (hX.setCell (p := ⟨g, B, none⟩) hgl.1 _).drew, ?_, ?_⟩
                · rw [hnx.out, rlx_if hA.out hB.out]; exact (tab_store ho B _).drew
                · rw [hnx.out]; exact hbx.out.mono (by omega)
              case measure => simp [intOf]; omega
            · have hjj : j = m := by omega
              have hlast : Hid ((E.take j).foldl rlx F = rnds E (fun _ => low) (t + 1)) := by show _ = _; rw [take_all l1.out (by omega), rnds, hF.out]
              rw [hlast.out] at ho hb
              subst hjj
              go_wp2
              refine ⟨⟨t + 1, by omega, by go_num, hX, ho, hb.out.mono (by omega)⟩, ?_⟩
              simp [intOf]; omega
        · have htt : t = k + 1 := by omega
          subst htt
          go_wp2
          go_ret
          exact ⟨_, _, rfl, ho, hX⟩
end Go.Proofs.Ytnhiepgfgnemkaa
