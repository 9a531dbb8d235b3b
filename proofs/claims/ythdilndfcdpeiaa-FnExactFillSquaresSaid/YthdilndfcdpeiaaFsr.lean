/- Contract of l33Fill (reference). Condition: a window of the chip. -/
import Derived.Test.YthdilndfcdpeiaaFil
import Derived.Test.YthdilndfcdpeiaaSp4
namespace Go.Proofs.Ythdilndfcdpeiaa
open Go.RowKit

def FillB (B O base : Nat) (r : Q4) (p sz gap : Int) (S : FS) (w : World) (e : Ending) (w' : World) : Prop := e = .returned (.int .i64 ((fillR r p sz gap S).2.2 - S.2.2)) ∧ 0 ≤ (fillR r p sz gap S).2.2 - S.2.2 ∧ (fillR r p sz gap S).2.2 - S.2.2 ≤ 10000 ∧ w'.ownsRow base 4 1 (.slice (some ⟨B, 0, none⟩) 6400 6400) 6400 (gcells (fillR r p sz gap S).1) ∧ w'.ownsRow base 4 1 (.slice (some ⟨O, 0, none⟩) 6400 6400) 6400 (gcells (fillR r p sz gap S).2.1) ∧ Mut w w' [B, O]
set_option maxRecDepth 100000 in
set_option maxHeartbeats 16000000 in
theorem l33Fill_any (B O base : Nat) (S : FS) (x y s p sz gap : Int) (w : World) (hbo : B < O) (ob : w.ownsRow base 4 1 (.slice (some ⟨B, 0, none⟩) 6400 6400) 6400 (gcells S.1)) (oo : w.ownsRow base 4 1 (.slice (some ⟨O, 0, none⟩) 6400 6400) 6400 (gcells S.2.1)) (hx : -40 ≤ x ∧ x < 40) (hy : -40 ≤ y ∧ y < 40) (hs : 4 ≤ s ∧ s ≤ 40) (hp : 1 ≤ p ∧ p ≤ 100) (hz : 1 ≤ sz ∧ sz ≤ 8) (hg : 0 ≤ gap ∧ gap ≤ 8) :
    Calls Try.prog 106 #[.slice (some ⟨B, 0, none⟩) 6400 6400, .slice (some ⟨O, 0, none⟩) 6400 6400, .int .i64 x, .int .i64 y, .int .i64 s, .int .i64 p, .int .i64 sz, .int .i64 gap] w (FillB B O base (winQ x y s) p sz gap S w) := by
  obtain ⟨hx0, hx1⟩ := hx
  obtain ⟨hy0, hy1⟩ := hy
  obtain ⟨hs0, hs1⟩ := hs
  obtain ⟨hp0, hp1⟩ := hp
  obtain ⟨hz0, hz1⟩ := hz
  obtain ⟨hg0, hg1⟩ := hg
  have hvr := hid (winQ_ok (x := x) (y := y) (s := s) ⟨hx0, hx1⟩ ⟨hy0, hy1⟩ (by omega))
  have hra : Hid ((winQ x y s).a = x ∧ (winQ x y s).b = y ∧ (winQ x y s).c = min (x + s) 40 ∧ (winQ x y s).d = min (y + s) 40) := ⟨rfl, rfl, rfl, rfl⟩
  have hcb := hid (fun g : Grid => cntB_bd (gh g) (winQ x y s) (by have := vR_iff.1 hvr.out; omega))
  have hAb := areaQ_bd hvr.out
  have hwin := hid (fun (W : World) (g : Grid) (hW : Bits W B g) => l33Window_any B 6400 g x y s W hW ⟨hx0, hx1⟩ ⟨hy0, hy1⟩ ⟨hs0, hs1⟩)
  obtain ⟨r, hr⟩ : ∃ r, r = winQ x y s := ⟨_, rfl⟩
  rw [← hr] at hvr hra hcb hAb hwin ⊢
  replace hr := hid hr
  obtain ⟨A, hA⟩ : ∃ A, A = areaQ r := ⟨_, rfl⟩
  rw [← hA] at hAb hwin
  obtain ⟨hA0, hA1⟩ := hAb
  have hm0 : 0 ≤ p * A := Int.mul_nonneg (by omega) hA0
  have hm1 : p * A ≤ 640000 := by
    have h1 := Int.mul_le_mul_of_nonneg_left hA1 (show 0 ≤ p by omega)
    have h2 := Int.mul_le_mul_of_nonneg_right hp1 (show (0 : Int) ≤ 6400 by omega)
    omega
  replace hA := hid hA
  obtain ⟨m, hm⟩ : ∃ m, m = S.2.2 := ⟨_, rfl⟩
  obtain ⟨T, hT⟩ : ∃ T, T = fillR r p sz gap S := ⟨_, rfl⟩
  have hT0 : Hid (fY r p sz gap y S = T) := by show _ = _; rw [hT, fillR, hra.out.2.1]
  replace hT := hid hT
  replace hm := hid hm
  have ob := hid ob
  have oo := hid oo
  go_enter Try.func106, Try.ntmps106
  go_wp2_with fail
  go_loopw [17, 18] (fun n t wr => ∃ (v : Int) (S' : FS) (cn : Int), t = .int .i64 v ∧ y ≤ v ∧ v ≤ 60 ∧ n = .int .i64 cn ∧ Hid (S'.2.2 = m + cn) ∧ 0 ≤ cn ∧ cn ≤ 100 * (v - y) ∧ Hid (fY r p sz gap v S' = T) ∧ Hid (wr.ownsRow base 4 1 (.slice (some ⟨B, 0, none⟩) 6400 6400) 6400 (gcells S'.1)) ∧ Hid (wr.ownsRow base 4 1 (.slice (some ⟨O, 0, none⟩) 6400 6400) 6400 (gcells S'.2.1)) ∧ Hid (Mut w wr [B, O])) (fun _ t _ => (1000 - intOf t).toNat)
  case atStart => exact ⟨y, S, 0, rfl, by omega, by omega, rfl, hid (by have := hm.out; omega), by omega, by omega, hT0, ob, oo, hid (Mut.refl _ _)⟩
  case round =>
    clear ob oo hT0
    obtain ⟨v, S', cn, rfl, hv0, hv1, rfl, hcn, hn0, hn1, hTy, ob, oo, hM⟩ := hrel
    by_cases hvd : v + sz ≤ y + s ∧ v + sz ≤ 40
    · obtain ⟨hvd1, hvd2⟩ := hvd
      have hvd3 : v + sz ≤ r.d := by have := hra.out.2.2.2; omega
      obtain ⟨T3, hT3⟩ : ∃ T3, T3 = fX r p sz gap v x S' := ⟨_, rfl⟩
      have hTy2 : Hid (fY r p sz gap (v + (sz + gap)) T3 = T) := by
        show _ = _
        rw [← hTy.out, fY_go hz0 hg0 hvd3, hT3, hra.out.1, show v + (sz + gap) = v + sz + gap by omega]
      have hT3b : Hid (fX r p sz gap v x S' = T3) := hT3.symm
      clear hTy hT3
      have hvd4 := hid hvd3
      clear hvd3
      go_wp2_with fail
      all_goals
        go_loopw [17, 19] (fun n t wr => ∃ (u : Int) (S' : FS) (cn : Int), t = .int .i64 u ∧ x ≤ u ∧ u ≤ 60 ∧ n = .int .i64 cn ∧ Hid (S'.2.2 = m + cn) ∧ 0 ≤ cn ∧ cn ≤ 100 * (v - y) + (u - x) ∧ Hid (fX r p sz gap v u S' = T3) ∧ Hid (wr.ownsRow base 4 1 (.slice (some ⟨B, 0, none⟩) 6400 6400) 6400 (gcells S'.1)) ∧ Hid (wr.ownsRow base 4 1 (.slice (some ⟨O, 0, none⟩) 6400 6400) 6400 (gcells S'.2.1)) ∧ Hid (Mut w wr [B, O])) (fun _ t _ => (1000 - intOf t).toNat)
        case atStart => exact ⟨x, S', cn, rfl, by omega, by omega, rfl, hcn, hn0, by omega, hT3b, ob, oo, hM⟩
        case round =>
          clear ob oo hT3b hM hcn hn0 hn1
          obtain ⟨u, S', cn, rfl, hu0, hu1, rfl, hcn, hn0, hn1, hTx, ob, oo, hM⟩ := hrel
          by_cases huc : u + sz ≤ x + s ∧ u + sz ≤ 40
          · obtain ⟨huc1, huc2⟩ := huc
            have huc3 : Hid (u + sz ≤ r.c) := by show _ ≤ _; have := hra.out.2.2.1; omega
            obtain ⟨C, hC⟩ : ∃ C, C = cntB (gh S'.1) r := ⟨_, rfl⟩
            have hCb := hcb.out S'.1
            have hwn := fun W (hW : Bits W B S'.1) => hwin.out W S'.1 hW
            rw [← hC] at hCb hwn
            obtain ⟨hC0, hC1⟩ := hCb
            replace hwn := hid hwn
            have hdn : Hid (denseB C r p = decide (p * A ≤ 100 * C)) := by show _ = _; rw [denseB, hA.out]
            have hbt := hid (Bits.of ob.out)
            by_cases hd : p * A ≤ 100 * C
            · have hTs : Hid (fX r p sz gap v (u + (sz + gap)) S' = T3) := by
                show _ = _
                rw [← hTx.out, fX_go hz0 hg0 huc3.out, stepS_skip (by rw [skipS, ← hC, hdn.out, decide_eq_true hd]; rfl), show u + (sz + gap) = u + sz + gap by omega]
              replace hC := hid hC
              clear hTx
              go_wp2_with fail
              all_goals
                refine (hwn.out _ hbt.out).mono ?_
                rintro e w' ⟨rfl, rfl⟩
                go_wp2_with fail
                go_roundw
                case rel => exact ⟨u + (sz + gap), S', cn, rfl, by omega, by omega, rfl, hcn, hn0, by omega, hTs, ob, oo, hM⟩
                case measure => simp [intOf] <;> omega
            · have hfit := fun W (hW : Bits W B S'.1) => l33Fits_any B 6400 S'.1 u v sz gap W hW (by omega) (by omega) (by omega) (by omega)
              cases hc : clearB S'.1 (grQ u v sz gap) with
              | false =>
                have hTs : Hid (fX r p sz gap v (u + (sz + gap)) S' = T3) := by
                  show _ = _
                  rw [← hTx.out, fX_go hz0 hg0 huc3.out, stepS_skip (by rw [skipS, hc]; simp), show u + (sz + gap) = u + sz + gap by omega]
                rw [show (⟨u - gap, v - gap, u + sz + gap, v + sz + gap⟩ : Q4) = grQ u v sz gap from rfl, hc] at hfit
                replace hfit := hid hfit
                replace hC := hid hC
                clear hTx hc
                go_wp2_with fail
                all_goals
                  refine (hwn.out _ hbt.out).mono ?_
                  rintro e w' ⟨rfl, rfl⟩
                  go_wp2_with fail
                  refine (hfit.out _ hbt.out).mono ?_
                  rintro e w' ⟨rfl, rfl⟩
                  go_wp2_with fail
                  go_roundw
                  case rel => exact ⟨u + (sz + gap), S', cn, rfl, by omega, by omega, rfl, hcn, hn0, by omega, hTs, ob, oo, hM⟩
                  case measure => simp [intOf] <;> omega
              | true =>
                have hTs : Hid (fX r p sz gap v (u + (sz + gap)) (orR S'.1 (sqQ u v sz), orR S'.2.1 (sqQ u v sz), S'.2.2 + 1) = T3) := by
                  show _ = _
                  rw [← hTx.out, fX_go hz0 hg0 huc3.out, stepS_put (by rw [skipS, ← hC, hdn.out, decide_eq_false hd, hc]; rfl), show u + (sz + gap) = u + sz + gap by omega]
                rw [show (⟨u - gap, v - gap, u + sz + gap, v + sz + gap⟩ : Q4) = grQ u v sz gap from rfl, hc] at hfit
                replace hfit := hid hfit
                replace hC := hid hC
                clear hTx hc
                go_wp2_with fail
                all_goals
                  refine (hwn.out _ hbt.out).mono ?_
                  rintro e w' ⟨rfl, rfl⟩
                  go_wp2_with fail
                  refine (hfit.out _ hbt.out).mono ?_
                  rintro e w' ⟨rfl, rfl⟩
                  clear hbt
                  go_wp2_with fail
                  go_loopw [22, 23] (fun t _ wr => ∃ q : Int, t = .int .i64 q ∧ v ≤ q ∧ q ≤ v + sz ∧ Hid (wr.ownsRow base 4 1 (.slice (some ⟨B, 0, none⟩) 6400 6400) 6400 (gcells (gmk (part (gh S'.1) (sqQ u v sz) (-2000) q)))) ∧ Hid (wr.ownsRow base 4 1 (.slice (some ⟨O, 0, none⟩) 6400 6400) 6400 (gcells (gmk (part (gh S'.2.1) (sqQ u v sz) (-2000) q)))) ∧ Hid (Mut w wr [B, O])) (fun t _ _ => (1000 - intOf t).toNat)
                  case atStart => exact ⟨v, rfl, by omega, by omega, hid (by have := ob.out; rw [gcells_gmk_gh, pg_start _ (sqQ u v sz) (Or.inl (Int.le_refl _))] at this; exact this), hid (by have := oo.out; rw [gcells_gmk_gh, pg_start _ (sqQ u v sz) (Or.inl (Int.le_refl _))] at this; exact this), hM⟩
                  case round =>
                    clear ob oo hM
                    obtain ⟨q, rfl, hq0, hq1, ob, oo, hM⟩ := hrel
                    by_cases hqd : q < v + sz
                    · go_wp2_with fail
                      go_loopw [23] (fun t wr => ∃ z : Int, t = .int .i64 z ∧ u ≤ z ∧ z ≤ u + sz ∧ Hid (wr.ownsRow base 4 1 (.slice (some ⟨B, 0, none⟩) 6400 6400) 6400 (gcells (gmk (part (gh S'.1) (sqQ u v sz) z q)))) ∧ Hid (wr.ownsRow base 4 1 (.slice (some ⟨O, 0, none⟩) 6400 6400) 6400 (gcells (gmk (part (gh S'.2.1) (sqQ u v sz) z q)))) ∧ Hid (Mut w wr [B, O])) (fun t _ => (1000 - intOf t).toNat)
                      case atStart => exact ⟨u, rfl, by omega, by omega, hid (by have := ob.out; rw [pg_go _ (sqQ u v sz) (Or.inl (Int.le_refl _))] at this; exact this), hid (by have := oo.out; rw [pg_go _ (sqQ u v sz) (Or.inl (Int.le_refl _))] at this; exact this), hM⟩
                      case round =>
                        clear ob oo hM
                        obtain ⟨z, rfl, hz0', hz1', ob, oo, hM⟩ := hrel
                        by_cases hzc : z < u + sz
                        · have hc : Hid (onC z q = true) := onC_iff.2 (by omega)
                          have hin : Hid (inR (sqQ u v sz) z q = true) := inR_iff.2 (by simp only [sqQ]; omega)
                          have hat := atG_lt hc.out
                          have hatI : (atG z q : Int) < 6400 := by omega
                          obtain ⟨v0, e0⟩ := owns_cell ob.out (atG z q) (by omega)
                          obtain ⟨v1, e1⟩ := owns_cell oo.out (atG z q) (by omega)
                          have hf := owns_free ob.out
                          have hf1 := owns_free oo.out
                          go_wp2_with (go_at_call 89; refine (l03At_any _ _ _ hc.out).mono ?_; rintro e w' ⟨rfl, rfl⟩)
                          go_roundw
                          case rel => exact ⟨z + 1, rfl, by omega, by omega, hid (by have := owns_other (owns_set ob.out (atG z q) (.bool true)) (B := O) (by simp [Value.ownBlock]; omega) (atG z q) (.bool true); rw [pg_set _ _ hc.out hin.out] at this; exact this), hid (by have := owns_set (owns_other oo.out (B := B) (by simp [Value.ownBlock]; omega) (atG z q) (.bool true)) (atG z q) (.bool true); rw [pg_set _ _ hc.out hin.out] at this; exact this), hid ((hM.out.setCell (p := ⟨B, atG z q, none⟩) (by simp) _).setCell (p := ⟨O, atG z q, none⟩) (by simp) _)⟩
                          case measure => simp [intOf] <;> omega
                        · go_wp2_with fail
                          go_roundw
                          case rel => exact ⟨q + 1, rfl, by omega, by omega, hid (by have := ob.out; rw [pg_row _ (sqQ u v sz) (Or.inl (by simp only [sqQ]; omega))] at this; exact this), hid (by have := oo.out; rw [pg_row _ (sqQ u v sz) (Or.inl (by simp only [sqQ]; omega))] at this; exact this), hM⟩
                          case measure => simp [intOf] <;> omega
                    · replace ob : Hid (World.ownsRow _ base 4 1 (.slice (some ⟨B, 0, none⟩) 6400 6400) 6400 (gcells (orR S'.1 (sqQ u v sz)))) := hid (by have := ob.out; rw [pg_done _ (sqQ u v sz) (Or.inl (by simp only [sqQ]; omega))] at this; exact this)
                      replace oo : Hid (World.ownsRow _ base 4 1 (.slice (some ⟨O, 0, none⟩) 6400 6400) 6400 (gcells (orR S'.2.1 (sqQ u v sz)))) := hid (by have := oo.out; rw [pg_done _ (sqQ u v sz) (Or.inl (by simp only [sqQ]; omega))] at this; exact this)
                      go_wp2_with fail
                      go_roundw
                      case rel => exact ⟨u + (sz + gap), (orR S'.1 (sqQ u v sz), orR S'.2.1 (sqQ u v sz), S'.2.2 + 1), cn + 1, rfl, by omega, by omega, rfl, hid (by show S'.2.2 + 1 = m + (cn + 1); have := hcn.out; omega), by omega, by omega, hTs, ob, oo, hM⟩
                      case measure => simp [intOf] <;> omega
          · have hTs : Hid (S' = T3) := by show _ = _; rw [← hTx.out, fX_stop (by have := hra.out.2.2.1; omega)]
            have hTy3 : Hid (fY r p sz gap (v + (sz + gap)) S' = T) := by rw [hTs.out]; exact hTy2
            have huc4 : ¬ u + sz ≤ min (x + s) 40 := by omega
            clear hTx huc
            go_wp2_with fail
            all_goals
              go_roundw
              case rel => exact ⟨v + (sz + gap), S', cn, rfl, by omega, by omega, rfl, hcn, hn0, by omega, hTy3, ob, oo, hM⟩
              case measure => simp [intOf] <;> omega
    · have hTs : Hid (S' = T) := by show _ = _; rw [← hTy.out, fY_stop (by have := hra.out.2.2.2; omega)]
      have hvd4 : ¬ v + sz ≤ min (y + s) 40 := by omega
      clear hTy hvd
      go_wp2_with fail
      all_goals
        go_ret
        have hcc : (fillR r p sz gap S).2.2 - S.2.2 = cn := by rw [← hT.out, ← hTs.out, hcn.out, hm.out]; omega
        refine ⟨by rw [hcc]; rfl, by omega, by omega, ?_, ?_, hM.out⟩
        · rw [← hT.out, ← hTs.out]; exact ob.out
        · rw [← hT.out, ← hTs.out]; exact oo.out
end Go.Proofs.Ythdilndfcdpeiaa
