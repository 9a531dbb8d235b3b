/- Contract of l33Cycle (reference) for the empty list. Condition: a table of at most 1000 rows, each as long as it has rows. -/
import Derived.Test.YtaigndaabmelhaaCyr
import Derived.Test.YtaigndaabmelhaaOdd
import Derived.Lib.AppendZeros
namespace Go.Proofs.Ytaigndaabmelhaa
open Go.RowKit

theorem cells_new1b (w : World) (o : Obj) (x : Value) (t : TypeId) : ∀ j u, [x][j]? = some u → ((w.alloc o).alloc (.cells #[x] t)).cell? ((⟨w.heap.size + 1, 0, none⟩ : Addr).add j) = some u := by
  have h := cells_new1 (w.alloc o) x t
  rwa [show (w.alloc o).heap.size = w.heap.size + 1 by rw [World.alloc]; simp] at h
theorem run_append_nil0 (w : World) (a : Addr) (ty : TypeId) : (Builtin.append_ #[41, 41] ty #[.slice (some a) 0 0, .slice none 0 0]).run Try.prog w = .ok (.slice (some a) 0 0) w := by
  obtain ⟨i0, hi, _, _, _⟩ := info_parts info_I64
  have h := Try.underlying41
  have h2 := Try.underlying2
  simp [Builtin.append_, run_underlying h, sizeOf, typeInfo, hi, Builtin.lenOf, Builtin.firstCells, storeCells]
set_option maxRecDepth 100000 in
set_option maxHeartbeats 8000000 in
theorem cycleR_top (T : List (List Bool)) (n cT : Nat) (qT : Option Addr) (hn : n ≤ 1000) (hrows : ∀ r ∈ T, r.length = n) (d N : Nat) (w : World) (h : SlR encb 1 w qT n T) (hN : d + 1 = N) (hN1 : N ≤ 1000) :
    Calls Try.prog 88 #[.slice qT n cT, .slice none 0 0, .int .i64 N] w (CycB (fne (fun f => cycR (edg T) n d [f]) 0 n) w.heap.size w) := by
  obtain ⟨i0, hi, hz0, hz1, hz2⟩ := info_parts info_I64
  have hNm : ((0 : Int) == (N : Int)) = false := by simp; omega
  have hNm2 : decide ((0 : Int) = (N : Int)) = false := by simp; omega
  have ih := hid (cycleR_any T n cT qT hn hrows w.heap.size d)
  have hTl := hid h.length
  have h0 := hid h
  obtain ⟨R, hR⟩ : ∃ R, R = fne (fun f => cycR (edg T) n d [f]) 0 n := ⟨_, rfl⟩
  rw [← hR]
  have hr : Hid (R = fne (fun f => cycR (edg T) n d [f]) 0 (n - 0)) := hR
  replace hN := hid hN
  clear hR
  go_enter Try.func88, Try.ntmps88
  go_wp2
  go_loopw [7] (fun ik wr => ∃ k : Nat, k ≤ n ∧ ik = .int .i64 k ∧ Hid (Ext w wr) ∧ Hid (R = fne (fun f => cycR (edg T) n d [f]) k (n - k))) (fun i _ => n - (intOf i).toNat)
  case atStart => exact ⟨0, by omega, by go_num, Ext.refl _, hr⟩
  case round =>
    clear hr
    obtain ⟨k, hk2, rfl, hE, hr⟩ := hrel
    by_cases hlt : k < n
    · have hltI : (k : Int) < (n : Int) := by omega
      go_wp2
      go_loopw [8, 9] (fun iu ij wj => ij = .int .i64 0 ∧ iu = .bool false ∧ wj = wr) (fun _ i _ => 0)
      case atStart => exact ⟨rfl, rfl, rfl⟩
      case round =>
        obtain ⟨rfl, rfl, rfl⟩ := hrel
        have hnk : n - k = (n - (k + 1)) + 1 := by omega
        have hpa := hid (Pa.one (e := edg T) (n := n) hlt)
        have hr1 : Hid (R = fne (fun f => cycR (edg T) n d [f]) k ((n - (k + 1)) + 1)) := by show _ = _; rw [hr.out, ← hnk]
        have oe := hid (show (World.alloc _ (.cells #[] 2)).ownsRow _ 2 1 (.slice (some ⟨_, 0, none⟩) 0 0) 0 [] from World.ownsRow_made (base := wr.heap.size) (e := 2) (size := 1) wr #[] 0 (by simp) (by simp [maxLen]) (by simp))
        have hbw := hE.out.le
        replace hnk := hid hnk
        clear hr
        go_wp2_with (at_builtin; first | (refine Lib.wpList_append_run _ rfl (.tmp 72) (.tmp 73) 41 41 rfl (.slice (some ⟨wr.heap.size, 0, none⟩) 0 0) (.slice none 0 0) rfl rfl (.slice (some ⟨wr.heap.size, 0, none⟩) 0 0) _ (run_append_nil0 _ ⟨wr.heap.size, 0, none⟩ _) ?_) | (refine wpList_append_own_at _ rfl _ _ 41 rfl wr.heap.size 2 i0 (.int .i64 0) 1 8 Try.underlying41 hi hz0 hz1 hz2 rfl (by omega) _ _ _ rfl (oe.out.alloc _) ⟨_, 0, none⟩ 1 1 [.int .i64 k] rfl rfl (cells_new1b _ _ _ _) (one_int1 _) (len_le (by omega) (by omega)) (by omega) (by simp; omega) ?_; intro v' w9 ho' hg' _ hb'; obtain ⟨qa, ca, rfl⟩ := owns_forms ho'; replace ho' := hid ho'; replace hg' := hid hg'; clear hb'; have hE9 := hid (((hE.out.alloc (.cells #[] 2)).alloc (.cells #[.int .i64 k] 2)).grown hg'.out (fun g hg => Nat.le_trans hbw (oe.out.lt g hg).1)); have ho9 := hid (app_flat (p := []) (owns_lowP ho'.out hbw)); have hb9 := hE9.out.le; clear hg' ho'))
        refine (ih.out [k] qa 0 ca N _ (h0.out.ext hE9.out) hpa.out rfl (by have := hN.out; omega) hN1 ho9.out hb9).mono ?_
        rintro e w10 ⟨q10, c10, rfl, hq0, o10, E10⟩
        obtain ⟨S, hS⟩ : ∃ S, S = cycR (edg T) n d [k] := ⟨_, rfl⟩
        rw [← hS] at hq0 o10 ⊢
        have hE10 := hid (hE9.out.trans E10)
        by_cases hR0 : S = []
        · have hq1 := hq0 hR0
          subst hq1
          have hr2 : Hid (R = fne (fun f => cycR (edg T) n d [f]) (k + 1) (n - (k + 1))) := by
            show _ = _
            rw [hr1.out, fne_skip (hS.symm.trans hR0)]
          subst hR0
          replace hS := hid hS
          replace o10 := hid o10
          replace hq0 := hid hq0
          clear hr1 E10
          go_wp2_with fail
          go_roundw
          case rel => exact ⟨k + 1, by omega, by go_num, hE10, hr2⟩
          case measure => simp [intOf]; omega
        · have hRl : (0 : Int) < (S.length : Int) := by have := List.length_pos_iff.2 hR0; omega
          have hr2 : Hid (R = S) := by
            show _ = _
            rw [hr1.out, fne_hit (fun h9 => hR0 (hS.trans h9))]
            exact hS.symm
          replace hS := hid hS
          have hR0 := hid hR0
          replace o10 := hid o10
          replace hq0 := hid hq0
          clear hr1 E10
          go_wp2_with fail
          go_ret
          rw [hr2.out]
          exact ⟨_, c10, rfl, hq0.out, o10.out, hE10.out⟩
    · have hltI : ¬ (k : Int) < (n : Int) := by omega
      have hr2 : Hid (R = []) := by show _ = _; rw [hr.out, show n - k = 0 by omega, fne]
      go_wp2
      go_ret
      exact CycB.nil hr2.out hE.out
end Go.Proofs.Ytaigndaabmelhaa
