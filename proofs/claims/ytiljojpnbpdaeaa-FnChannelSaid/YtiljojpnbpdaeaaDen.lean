/- Contracts of ChannelSpans and ChannelDensity (program and reference). Condition: at most 2^20 columns. -/
import Derived.Test.YtiljojpnbpdaeaaSpn
namespace Go.Proofs.Ytiljojpnbpdaeaa
open Go.RowKit

/-- How many of the first k spans contain a column. -/
def cntK (S : List Q3) (c : Int) (k : Nat) : Int := ((S.take k).filter fun s => wit c s.b s.c).length
theorem cntK_hit {S : List Q3} {c : Int} {k : Nat} {s : Q3} (h : S[k]? = some s) (hw : wit c s.b s.c = true) : cntK S c (k + 1) = cntK S c k + 1 := by
  rw [cntK, take_snoc h, List.filter_append, List.length_append, cntK]; simp [hw]
theorem cntK_miss {S : List Q3} {c : Int} {k : Nat} {s : Q3} (h : S[k]? = some s) (hw : wit c s.b s.c = false) : cntK S c (k + 1) = cntK S c k := by
  rw [cntK, take_snoc h, List.filter_append, List.length_append, cntK]; simp [hw]
theorem cntK_bd (S : List Q3) (c : Int) (k : Nat) : 0 ≤ cntK S c k ∧ cntK S c k ≤ k := by
  have := List.length_filter_le (fun s => wit c s.b s.c) (S.take k)
  have := List.length_take_le k S
  unfold cntK
  omega
def denK (S : List Q3) : Nat → Int
  | 0 => 0
  | k + 1 => max (denK S k) (cntK S k S.length)
theorem denK_bd (S : List Q3) : ∀ k, 0 ≤ denK S k ∧ denK S k ≤ S.length
  | 0 => by simp [denK]
  | k + 1 => by
    have := denK_bd S k
    have := cntK_bd S k S.length
    rw [denK]; omega
/-- What ChannelDensity answers. -/
def denR (t b : List Int) : Int := if chOk t b then denK (spansL t b) t.length else -1
theorem chOk_len {t b : List Int} (h : chOk t b = true) : t.length = b.length ∧ t.length ≤ 16 := by
  simp only [chOk, Bool.and_eq_true, decide_eq_true_eq] at h; exact h.1

set_option maxRecDepth 100000 in
set_option maxHeartbeats 1000000 in
theorem ChannelDensity_any (p1 p2 : Option Addr) (n m c1 c2 : Nat) (t b : List Int) (w : World) (h : IsCh w p1 p2 n m c1 c2 t b) :
    Calls Try.prog 18 #[.agg #[.slice p1 n c1, .slice p2 m c2]] w fun e w' => e = .returned (.int .i64 (denR t b)) ∧ Ext w w' := by
  have l1 := hid h.top.length
  have l2 := hid h.bot.length
  cases hok : chOk t b with
  | false =>
    go_enter Try.func18, Try.ntmps18
    go_wp2_with fail
    generalize hW : w.alloc _ = W0
    obtain ⟨E0, z0, b0⟩ := boxes1 hW
    clear hW z0 b0
    refine (validChannel_any _ _ _ _ _ _ t b _ (h.ext E0)).mono ?_
    rw [hok]
    rintro e w1 ⟨rfl, E1⟩
    go_wp2_with fail
    go_ret
    exact ⟨ret_int (by rw [denR, hok]; rfl), E0.trans E1⟩
  | true =>
    have hl := chOk_len hok
    have hnm : n = m := by have := l1.out; have := l2.out; omega
    subst hnm
    have hn16 : n ≤ 16 := by have := l1.out; omega
    clear hl
    have hres : Hid (denR t b = denK (spansL t b) n) := by show _ = _; rw [denR, hok, l1.out]; rfl
    go_enter Try.func18, Try.ntmps18
    go_wp2_with fail
    generalize hW : w.alloc _ = W0
    obtain ⟨E0, z0, b0⟩ := boxes1 hW
    clear hW
    replace z0 := hid z0
    refine (validChannel_any _ _ _ _ _ _ t b _ (h.ext E0)).mono ?_
    rw [hok]
    clear hok
    rintro e w1 ⟨rfl, E1⟩
    have gb := hid (show Blk W0 _ [_, _] _ from b0)
    clear b0
    have g1 := (gb.out.ext E1).cells
    have E3 := E1
    clear E1
    go_wp2
    go_loopw [3, 14] (fun o i wr => ∃ k : Nat, k ≤ n ∧ i = .int .i64 k ∧ o = .int .i64 (denK (spansL t b) k) ∧ Ext w1 wr) (fun _ i _ => n - (intOf i).toNat)
    case atStart => exact ⟨0, by omega, rfl, rfl, Ext.refl _⟩
    case round =>
      obtain ⟨k, hk, rfl, rfl, hE⟩ := hrel
      by_cases hlt : k < n
      · have gk := (gb.out.ext (E3.trans hE)).cells
        have hlt2 : (k : Int) < n := by omega
        have bd0 := denK_bd (spansL t b) k
        have hlen0 : (spansL t b).length ≤ 12 := spansK_len _ _ _ _
        go_wp2_with fail
        refine (spans_any _ _ n _ _ t b _ (h.top.ext (E0.trans (E3.trans hE))) (h.bot.ext (E0.trans (E3.trans hE))) hn16).mono ?_
        rintro e w2 ⟨q, c, rfl, ho, E2⟩
        have hs := SlT.of_owns (l := spansL t b) enc3_len rfl ho
        clear ho gk
        have hd : Hid (denK (spansL t b) (k + 1) = max (denK (spansL t b) k) (cntK (spansL t b) k (spansL t b).length)) := rfl
        generalize hSS : spansL t b = S at hs hlen0 bd0 hd ⊢
        replace hSS := hid hSS
        obtain ⟨N, hN⟩ : ∃ N, N = S.length := ⟨_, rfl⟩
        rw [← hN] at hs hlen0 hd bd0 ⊢
        replace hN := hid hN
        go_wp2
        go_loopw [5, 20] (fun o i wr' => ∃ j : Nat, j ≤ N ∧ i = .int .i64 j ∧ o = .int .i64 (cntK S k j) ∧ Ext w2 wr') (fun _ i _ => N - (intOf i).toNat)
        case atStart => exact ⟨0, by omega, rfl, rfl, Ext.refl _⟩
        case round =>
          obtain ⟨j, hj, rfl, rfl, hE'⟩ := hrel
          by_cases hjl : j < N
          · obtain ⟨B, off, s, rfl, hb, hx, x0, x1, x2⟩ := (hs.ext hE').three hjl
            have hjl2 : (j : Int) < N := by omega
            have bd := cntK_bd S k j
            go_wp2_with (go_at_call 46; refine (within_any _ _ _ _).mono ?_; rintro e w' ⟨rfl, rfl⟩)
            all_goals
              go_roundw
              case rel => exact ⟨j + 1, by omega, by go_num, by first | rw [cntK_hit hx.out ‹_›] | rw [cntK_miss hx.out (by simp_all)], hE'.alloc _⟩
              case measure => simp [intOf]; omega
          · have hjN : j = N := by omega
            subst hjN
            go_wp2
            go_roundw
            case rel => exact ⟨k + 1, by omega, by go_num, by rw [hSS.out, hd.out]; first | rfl | (congr 1; omega), hE.trans (E2.trans hE')⟩
            case measure => simp [intOf]; omega
      · have hkn : k = n := by omega
        subst hkn
        go_wp2_with fail
        go_ret
        exact ⟨ret_int hres.out.symm, E0.trans (E3.trans hE)⟩
end Go.Proofs.Ytiljojpnbpdaeaa
