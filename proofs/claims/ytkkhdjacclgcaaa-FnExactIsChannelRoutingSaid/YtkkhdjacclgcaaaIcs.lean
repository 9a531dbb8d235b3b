/- Contract of the reference's IsChannelRouting. Condition: at most 2^20 tracks. -/
import Derived.Test.YtkkhdjacclgcaaaIcr
namespace Go.Proofs.Ytkkhdjacclgcaaa
open Go.RowKit Go.Maps

def okS (t b : List Int) (S : List Q3) (tr : List Int) (N i : Nat) : Prop := ∀ s x, S[i]? = some s → tr[i]? = some x → (1 ≤ x ∧ x ≤ 12) ∧ ∀ k, k < N → ∀ u y, S[k]? = some u → tr[k]? = some y →
  ¬ (i ≠ k ∧ x = y ∧ s.b ≤ u.c ∧ u.b ≤ s.c) ∧ ¬ (aboveB t b s.a u.a = true ∧ y ≤ x)
/-- What the reference's IsChannelRouting tells. -/
def isCRs (t b tr : List Int) : Prop := chOk t b = true ∧ tr.length = (spansL t b).length ∧ ∀ i, i < (spansL t b).length → okS t b (spansL t b) tr (spansL t b).length i
theorem okS_step {t b : List Int} {S : List Q3} {tr : List Int} {i k : Nat} {s : Q3} {x : Int} {u : Q3} {y : Int}
    (h : ∀ k', k' < k → ∀ u y, S[k']? = some u → tr[k']? = some y → ¬ (i ≠ k' ∧ x = y ∧ s.b ≤ u.c ∧ u.b ≤ s.c) ∧ ¬ (aboveB t b s.a u.a = true ∧ y ≤ x))
    (hu : S[k]? = some u) (hy : tr[k]? = some y) (h1 : ¬ (i ≠ k ∧ x = y ∧ s.b ≤ u.c ∧ u.b ≤ s.c)) (h2 : ¬ (aboveB t b s.a u.a = true ∧ y ≤ x)) :
    ∀ k', k' < k + 1 → ∀ u y, S[k']? = some u → tr[k']? = some y → ¬ (i ≠ k' ∧ x = y ∧ s.b ≤ u.c ∧ u.b ≤ s.c) ∧ ¬ (aboveB t b s.a u.a = true ∧ y ≤ x) := by
  intro k' hk u' y' hu' hy'
  by_cases hkk : k' = k
  · subst hkk
    rw [hu] at hu'; rw [hy] at hy'; cases hu'; cases hy'
    exact ⟨h1, h2⟩
  · exact h k' (by omega) u' y' hu' hy'
theorem okS_next {t b : List Int} {S : List Q3} {tr : List Int} {N i : Nat} {s : Q3} {x : Int} (h : ∀ i', i' < i → okS t b S tr N i') (hs : S[i]? = some s) (hx : tr[i]? = some x) (hxb : 1 ≤ x ∧ x ≤ 12)
    (hR : ∀ k', k' < N → ∀ u y, S[k']? = some u → tr[k']? = some y → ¬ (i ≠ k' ∧ x = y ∧ s.b ≤ u.c ∧ u.b ≤ s.c) ∧ ¬ (aboveB t b s.a u.a = true ∧ y ≤ x)) : ∀ i', i' < i + 1 → okS t b S tr N i' := by
  intro i' hi
  by_cases hij : i' = i
  · subst hij
    intro s' x' hs' hx'
    rw [hs] at hs'; rw [hx] at hx'; cases hs'; cases hx'
    exact ⟨hxb, hR⟩
  · exact h i' (by omega)
set_option maxRecDepth 100000 in
set_option maxHeartbeats 4000000 in
theorem specIsChannelRouting_any (p1 p2 p3 : Option Addr) (n m c1 c2 N c3 : Nat) (t b tr : List Int) (w : World) (h : IsCh w p1 p2 n m c1 c2 t b) (h3 : SlT enc1 1 w p3 N tr) (hN : N ≤ 1048576) :
    Calls Try.prog 28 #[.agg #[.slice p1 n c1, .slice p2 m c2], .slice p3 N c3] w (Says (isCRs t b tr) w) := by
  have l1 := hid h.top.length
  have l2 := hid h.bot.length
  have l3 := hid h3.length
  cases hok : chOk t b with
  | false =>
    have hno := hid (show ¬ isCRs t b tr from fun hh => by rw [isCRs, hok] at hh; exact Bool.noConfusion hh.1)
    go_enter Try.func28, Try.ntmps28
    go_wp2_with fail
    generalize hW : w.alloc _ = W0
    obtain ⟨E0, z0, b0⟩ := boxes1 hW
    clear hW z0 b0
    refine (l32Channel_any _ _ _ _ _ _ t b _ (h.ext E0)).mono ?_
    rw [hok]
    rintro e w1 ⟨rfl, E1⟩
    go_wp2_with fail
    go_ret
    exact says_no hno.out (E0.trans E1)
  | true =>
    have hl := chOk_len hok
    have hnm : n = m := by have := l1.out; have := l2.out; omega
    subst hnm
    have hn16 : n ≤ 16 := by have := l1.out; omega
    clear hl
    have hokh := hid hok
    go_enter Try.func28, Try.ntmps28
    go_wp2_with fail
    generalize hW : w.alloc _ = W0
    obtain ⟨E0, z0, b0⟩ := boxes1 hW
    clear hW z0
    refine (l32Channel_any _ _ _ _ _ _ t b _ (h.ext E0)).mono ?_
    rw [hok]
    clear hok
    rintro e w1 ⟨rfl, E1⟩
    have gb := hid (show Blk W0 _ [_, _] _ from b0)
    clear b0
    have g1 := (gb.out.ext E1).cells
    go_wp2_with fail
    refine (l32Spans_any _ _ n _ _ t b _ (h.top.ext (E0.trans E1)) (h.bot.ext (E0.trans E1)) hn16).mono ?_
    rintro e w2 ⟨q, c, rfl, ho, E2⟩
    have hs := SlT.of_owns (l := spansL t b) enc3_len rfl ho
    have hlen : (spansL t b).length ≤ 12 := spansK_len _ _ _ _
    clear ho g1
    have E12 := E1.trans E2
    by_cases hNS : N = (spansL t b).length
    · have hcr : Hid ((∀ i, i < N → okS t b (spansL t b) tr N i) ↔ isCRs t b tr) := by
        show _ ↔ _
        rw [isCRs, ← hNS, l3.out]
        exact ⟨fun hh => ⟨hokh.out, rfl, hh⟩, fun hh => hh.2.2⟩
      generalize spansL t b = S at hs hlen hNS hcr ⊢
      rw [← hNS] at hs hlen ⊢
      replace hNS := hid hNS
      go_wp2
      go_loopw [6] (fun i wr => ∃ j : Nat, j ≤ N ∧ i = .int .i64 j ∧ Ext w2 wr ∧ Hid (∀ i, i < j → okS t b S tr N i)) (fun i _ => N - (intOf i).toNat)
      case atStart => exact ⟨0, by omega, rfl, Ext.refl _, fun i hi => absurd hi (Nat.not_lt_zero _)⟩
      case round =>
        obtain ⟨i, hi, rfl, hE, hR⟩ := hrel
        by_cases hlt : i < N
        · obtain ⟨B3, off3, s, rfl, hb3, hx, _, _, _⟩ := (hs.ext hE).three hlt
          obtain ⟨B4, off4, x, rfl, hb4, hy, y0⟩ := (h3.ext (E0.trans (E12.trans hE))).int hlt
          have hltI : (i : Int) < N := by omega
          cases hq : wit x 1 12 with
          | false =>
            have hno := hid (show ¬ isCRs t b tr from fun hh => by
              have := ((hcr.out.2 hh) i hlt s x hx.out hy.out).1
              have hq' := wit_iff.2 this
              rw [hq] at hq'; cases hq')
            go_wp2_with (go_at_call 58; refine (l09In_any _ _ _ _).mono ?_; rw [hq]; rintro e w' ⟨rfl, rfl⟩)
            go_ret
            exact says_no hno.out (E0.trans (E12.trans hE))
          | true =>
            have hxb := wit_iff.1 hq
            go_wp2_with (go_at_call 58; refine (l09In_any _ _ _ _).mono ?_; rw [hq]; rintro e w' ⟨rfl, rfl⟩)
            clear y0
            go_loopw [7] (fun kk wr => ∃ k : Nat, k ≤ N ∧ kk = .int .i64 k ∧ Ext w2 wr ∧ Hid (∀ k', k' < k → ∀ u y, S[k']? = some u → tr[k']? = some y → ¬ (i ≠ k' ∧ x = y ∧ s.b ≤ u.c ∧ u.b ≤ s.c) ∧ ¬ (aboveB t b s.a u.a = true ∧ y ≤ x))) (fun kk _ => N - (intOf kk).toNat)
            case atStart => exact ⟨0, by omega, rfl, hE, fun k hk => absurd hk (Nat.not_lt_zero _)⟩
            case round =>
              clear hE hb3 hb4
              obtain ⟨k, hk, rfl, hI, hRk⟩ := hrel
              by_cases hkN : k < N
              · have hkI : (k : Int) < N := by omega
                obtain ⟨B1, off1, u, hp1, hb1, hu, u0, u1, u2⟩ := (hs.ext hI).three hkN
                obtain ⟨B2, off2, y, hp2, hb2, hy2, v0⟩ := (h3.ext (E0.trans (E12.trans hI))).int hkN
                obtain ⟨_, _, s', hp3, hb3, hx3, s0, s1, s2⟩ := (hs.ext hI).three hlt
                obtain ⟨_, _, x', hp4, hb4, hy4, v1⟩ := (h3.ext (E0.trans (E12.trans hI))).int hlt
                cases hp1
                cases hp2
                cases hp3
                cases hp4
                obtain rfl : s = s' := Option.some.inj (hx.out.symm.trans hx3.out)
                obtain rfl : x = x' := Option.some.inj (hy.out.symm.trans hy4.out)
                by_cases hA : i ≠ k ∧ x = y ∧ s.b ≤ u.c ∧ u.b ≤ s.c
                · have hno := hid (show ¬ isCRs t b tr from fun hh => (((hcr.out.2 hh) i hlt s x hx.out hy.out).2 k hkN u y hu.out hy2.out).1 hA)
                  obtain ⟨a1, a2, a3, a4⟩ := hA
                  have d1 : ((i : Int) != (k : Int)) = true := by simp; omega
                  have d2 : (x == y) = true := by simp [a2]
                  clear a1 a2
                  go_wp2_with fail
                  refine wp_region_later (by kernel_rfl) (by kernel_rfl) ?_
                  repeat (go_big_quiet_step (fail))
                  refine wpQuiet_nil ?_
                  rintro w7 ⟨⟨_, h7⟩, rfl⟩
                  go_wp2
                  go_ret
                  exact says_no hno.out ((E0.trans (E12.trans hI)).trans h7)
                · have hnA := hA
                  by_cases a1 : i = k
                  · have d1 : ((i : Int) != (k : Int)) = false := by simp; omega
                    replace hnA := hid hnA
                    clear hA
                    replace a1 := hid a1
                    have hnA := hnA.out
                    go_wp2_with fail
                    refine wp_region_later (by kernel_rfl) (by kernel_rfl) ?_
                    repeat (go_big_quiet_step (fail))
                    refine wpQuiet_nil ?_
                    rintro w7 ⟨⟨_, h7⟩, rfl⟩
                    have gk7 := (gb.out.ext (E12.trans (hI.trans h7))).cells
                    have u07 := (h7.cells _ _ hb1).trans u0
                    have s07 := (h7.cells _ _ hb3).trans s0
                    have v07 := (h7.cells _ _ hb2).trans v0
                    have v17 := (h7.cells _ _ hb4).trans v1
                    have r1 := Nat.lt_of_lt_of_le hb1 h7.le
                    have r2 := Nat.lt_of_lt_of_le hb2 h7.le
                    have r3 := Nat.lt_of_lt_of_le (gb.out.ext (E12.trans hI)).lt h7.le
                    cases hab : aboveB t b s.a u.a with
                    | false =>
                      have hS' := hid (okS_step hRk.out hu.out hy2.out hnA (fun hh => by rw [hab] at hh; exact Bool.noConfusion hh.1))
                      have hcall : ∀ p : Later w7, Calls Try.prog 61 #[.agg #[.slice p1 n c1, .slice p2 n c2], .int .i64 s.a, .int .i64 u.a] p.val fun e w' => e = .returned (.bool false) ∧ Ext p.val w' := fun p => by rw [← hab]; exact l32Above_any _ _ _ _ _ t b _ _ _ (((h.top.ext (E0.trans (E12.trans hI))).ext h7).ext p.ok) (((h.bot.ext (E0.trans (E12.trans hI))).ext h7).ext p.ok) hn16
                      go_wp2_with fail
                      refine wp_region_later (by kernel_rfl) (by kernel_rfl) ?_
                      repeat (go_big_quiet_step ((go_at_call 61; exact later_of (hcall _))))
                      refine wpQuiet_nil ?_
                      rintro w8 ⟨⟨_, h8⟩, rfl⟩
                      go_wp2
                      go_roundw
                      case rel => exact ⟨k + 1, by omega, by go_num, hI.trans (h7.trans h8), hS'⟩
                      case measure => simp [intOf]; omega
                    | true =>
                      have hcall : ∀ p : Later w7, Calls Try.prog 61 #[.agg #[.slice p1 n c1, .slice p2 n c2], .int .i64 s.a, .int .i64 u.a] p.val fun e w' => e = .returned (.bool true) ∧ Ext p.val w' := fun p => by rw [← hab]; exact l32Above_any _ _ _ _ _ t b _ _ _ (((h.top.ext (E0.trans (E12.trans hI))).ext h7).ext p.ok) (((h.bot.ext (E0.trans (E12.trans hI))).ext h7).ext p.ok) hn16
                      by_cases hyx2 : y ≤ x
                      · have hno := hid (show ¬ isCRs t b tr from fun hh => (((hcr.out.2 hh) i hlt s x hx.out hy.out).2 k hkN u y hu.out hy2.out).2 ⟨hab, hyx2⟩)
                        go_wp2_with fail
                        refine wp_region_later (by kernel_rfl) (by kernel_rfl) ?_
                        repeat (go_big_quiet_step ((go_at_call 61; exact later_of (hcall _))))
                        refine wpQuiet_nil ?_
                        rintro w8 ⟨⟨_, h8⟩, rfl⟩
                        go_wp2
                        go_ret
                        exact says_no hno.out ((E0.trans (E12.trans hI)).trans (h7.trans h8))
                      · have hS' := hid (okS_step hRk.out hu.out hy2.out hnA (fun hh => hyx2 hh.2))
                        have d9 : ¬ (y ≤ x) := hyx2
                        go_wp2_with fail
                        refine wp_region_later (by kernel_rfl) (by kernel_rfl) ?_
                        repeat (go_big_quiet_step ((go_at_call 61; exact later_of (hcall _))))
                        refine wpQuiet_nil ?_
                        rintro w8 ⟨⟨_, h8⟩, rfl⟩
                        go_wp2
                        go_roundw
                        case rel => exact ⟨k + 1, by omega, by go_num, hI.trans (h7.trans h8), hS'⟩
                        case measure => simp [intOf]; omega
                  · have d1 : ((i : Int) != (k : Int)) = true := by simp; omega
                    by_cases a2 : x = y
                    · have d2 : (x == y) = true := by simp [a2]
                      replace a2 := hid a2
                      by_cases a3 : s.b ≤ u.c
                      · have a4 : ¬ (u.b ≤ s.c) := fun hh => hnA ⟨a1, a2.out, a3, hh⟩
                        go_wp2_with fail
                        refine wp_region_later (by kernel_rfl) (by kernel_rfl) ?_
                        repeat (go_big_quiet_step (fail))
                        refine wpQuiet_nil ?_
                        rintro w7 ⟨⟨_, h7⟩, rfl⟩
                        have gk7 := (gb.out.ext (E12.trans (hI.trans h7))).cells
                        have u07 := (h7.cells _ _ hb1).trans u0
                        have s07 := (h7.cells _ _ hb3).trans s0
                        have v07 := (h7.cells _ _ hb2).trans v0
                        have v17 := (h7.cells _ _ hb4).trans v1
                        have r1 := Nat.lt_of_lt_of_le hb1 h7.le
                        have r2 := Nat.lt_of_lt_of_le hb2 h7.le
                        have r3 := Nat.lt_of_lt_of_le (gb.out.ext (E12.trans hI)).lt h7.le
                        cases hab : aboveB t b s.a u.a with
                        | false =>
                          have hS' := hid (okS_step hRk.out hu.out hy2.out hnA (fun hh => by rw [hab] at hh; exact Bool.noConfusion hh.1))
                          have hcall : ∀ p : Later w7, Calls Try.prog 61 #[.agg #[.slice p1 n c1, .slice p2 n c2], .int .i64 s.a, .int .i64 u.a] p.val fun e w' => e = .returned (.bool false) ∧ Ext p.val w' := fun p => by rw [← hab]; exact l32Above_any _ _ _ _ _ t b _ _ _ (((h.top.ext (E0.trans (E12.trans hI))).ext h7).ext p.ok) (((h.bot.ext (E0.trans (E12.trans hI))).ext h7).ext p.ok) hn16
                          go_wp2_with fail
                          refine wp_region_later (by kernel_rfl) (by kernel_rfl) ?_
                          repeat (go_big_quiet_step ((go_at_call 61; exact later_of (hcall _))))
                          refine wpQuiet_nil ?_
                          rintro w8 ⟨⟨_, h8⟩, rfl⟩
                          go_wp2
                          go_roundw
                          case rel => exact ⟨k + 1, by omega, by go_num, hI.trans (h7.trans h8), hS'⟩
                          case measure => simp [intOf]; omega
                        | true =>
                          have hcall : ∀ p : Later w7, Calls Try.prog 61 #[.agg #[.slice p1 n c1, .slice p2 n c2], .int .i64 s.a, .int .i64 u.a] p.val fun e w' => e = .returned (.bool true) ∧ Ext p.val w' := fun p => by rw [← hab]; exact l32Above_any _ _ _ _ _ t b _ _ _ (((h.top.ext (E0.trans (E12.trans hI))).ext h7).ext p.ok) (((h.bot.ext (E0.trans (E12.trans hI))).ext h7).ext p.ok) hn16
                          by_cases hyx2 : y ≤ x
                          · have hno := hid (show ¬ isCRs t b tr from fun hh => (((hcr.out.2 hh) i hlt s x hx.out hy.out).2 k hkN u y hu.out hy2.out).2 ⟨hab, hyx2⟩)
                            go_wp2_with fail
                            refine wp_region_later (by kernel_rfl) (by kernel_rfl) ?_
                            repeat (go_big_quiet_step ((go_at_call 61; exact later_of (hcall _))))
                            refine wpQuiet_nil ?_
                            rintro w8 ⟨⟨_, h8⟩, rfl⟩
                            go_wp2
                            go_ret
                            exact says_no hno.out ((E0.trans (E12.trans hI)).trans (h7.trans h8))
                          · have hS' := hid (okS_step hRk.out hu.out hy2.out hnA (fun hh => hyx2 hh.2))
                            have d9 : ¬ (y ≤ x) := hyx2
                            go_wp2_with fail
                            refine wp_region_later (by kernel_rfl) (by kernel_rfl) ?_
                            repeat (go_big_quiet_step ((go_at_call 61; exact later_of (hcall _))))
                            refine wpQuiet_nil ?_
                            rintro w8 ⟨⟨_, h8⟩, rfl⟩
                            go_wp2
                            go_roundw
                            case rel => exact ⟨k + 1, by omega, by go_num, hI.trans (h7.trans h8), hS'⟩
                            case measure => simp [intOf]; omega
                      · have d3 : decide (s.b ≤ u.c) = false := by simpa using a3
                        go_wp2_with fail
                        refine wp_region_later (by kernel_rfl) (by kernel_rfl) ?_
                        repeat (go_big_quiet_step (fail))
                        refine wpQuiet_nil ?_
                        rintro w7 ⟨⟨_, h7⟩, rfl⟩
                        have gk7 := (gb.out.ext (E12.trans (hI.trans h7))).cells
                        have u07 := (h7.cells _ _ hb1).trans u0
                        have s07 := (h7.cells _ _ hb3).trans s0
                        have v07 := (h7.cells _ _ hb2).trans v0
                        have v17 := (h7.cells _ _ hb4).trans v1
                        have r1 := Nat.lt_of_lt_of_le hb1 h7.le
                        have r2 := Nat.lt_of_lt_of_le hb2 h7.le
                        have r3 := Nat.lt_of_lt_of_le (gb.out.ext (E12.trans hI)).lt h7.le
                        cases hab : aboveB t b s.a u.a with
                        | false =>
                          have hS' := hid (okS_step hRk.out hu.out hy2.out hnA (fun hh => by rw [hab] at hh; exact Bool.noConfusion hh.1))
                          have hcall : ∀ p : Later w7, Calls Try.prog 61 #[.agg #[.slice p1 n c1, .slice p2 n c2], .int .i64 s.a, .int .i64 u.a] p.val fun e w' => e = .returned (.bool false) ∧ Ext p.val w' := fun p => by rw [← hab]; exact l32Above_any _ _ _ _ _ t b _ _ _ (((h.top.ext (E0.trans (E12.trans hI))).ext h7).ext p.ok) (((h.bot.ext (E0.trans (E12.trans hI))).ext h7).ext p.ok) hn16
                          go_wp2_with fail
                          refine wp_region_later (by kernel_rfl) (by kernel_rfl) ?_
                          repeat (go_big_quiet_step ((go_at_call 61; exact later_of (hcall _))))
                          refine wpQuiet_nil ?_
                          rintro w8 ⟨⟨_, h8⟩, rfl⟩
                          go_wp2
                          go_roundw
                          case rel => exact ⟨k + 1, by omega, by go_num, hI.trans (h7.trans h8), hS'⟩
                          case measure => simp [intOf]; omega
                        | true =>
                          have hcall : ∀ p : Later w7, Calls Try.prog 61 #[.agg #[.slice p1 n c1, .slice p2 n c2], .int .i64 s.a, .int .i64 u.a] p.val fun e w' => e = .returned (.bool true) ∧ Ext p.val w' := fun p => by rw [← hab]; exact l32Above_any _ _ _ _ _ t b _ _ _ (((h.top.ext (E0.trans (E12.trans hI))).ext h7).ext p.ok) (((h.bot.ext (E0.trans (E12.trans hI))).ext h7).ext p.ok) hn16
                          by_cases hyx2 : y ≤ x
                          · have hno := hid (show ¬ isCRs t b tr from fun hh => (((hcr.out.2 hh) i hlt s x hx.out hy.out).2 k hkN u y hu.out hy2.out).2 ⟨hab, hyx2⟩)
                            go_wp2_with fail
                            refine wp_region_later (by kernel_rfl) (by kernel_rfl) ?_
                            repeat (go_big_quiet_step ((go_at_call 61; exact later_of (hcall _))))
                            refine wpQuiet_nil ?_
                            rintro w8 ⟨⟨_, h8⟩, rfl⟩
                            go_wp2
                            go_ret
                            exact says_no hno.out ((E0.trans (E12.trans hI)).trans (h7.trans h8))
                          · have hS' := hid (okS_step hRk.out hu.out hy2.out hnA (fun hh => hyx2 hh.2))
                            have d9 : ¬ (y ≤ x) := hyx2
                            go_wp2_with fail
                            refine wp_region_later (by kernel_rfl) (by kernel_rfl) ?_
                            repeat (go_big_quiet_step ((go_at_call 61; exact later_of (hcall _))))
                            refine wpQuiet_nil ?_
                            rintro w8 ⟨⟨_, h8⟩, rfl⟩
                            go_wp2
                            go_roundw
                            case rel => exact ⟨k + 1, by omega, by go_num, hI.trans (h7.trans h8), hS'⟩
                            case measure => simp [intOf]; omega
                    · have d2 : (x == y) = false := by simp [a2]
                      go_wp2_with fail
                      refine wp_region_later (by kernel_rfl) (by kernel_rfl) ?_
                      repeat (go_big_quiet_step (fail))
                      refine wpQuiet_nil ?_
                      rintro w7 ⟨⟨_, h7⟩, rfl⟩
                      have gk7 := (gb.out.ext (E12.trans (hI.trans h7))).cells
                      have u07 := (h7.cells _ _ hb1).trans u0
                      have s07 := (h7.cells _ _ hb3).trans s0
                      have v07 := (h7.cells _ _ hb2).trans v0
                      have v17 := (h7.cells _ _ hb4).trans v1
                      have r1 := Nat.lt_of_lt_of_le hb1 h7.le
                      have r2 := Nat.lt_of_lt_of_le hb2 h7.le
                      have r3 := Nat.lt_of_lt_of_le (gb.out.ext (E12.trans hI)).lt h7.le
                      cases hab : aboveB t b s.a u.a with
                      | false =>
                        have hS' := hid (okS_step hRk.out hu.out hy2.out hnA (fun hh => by rw [hab] at hh; exact Bool.noConfusion hh.1))
                        have hcall : ∀ p : Later w7, Calls Try.prog 61 #[.agg #[.slice p1 n c1, .slice p2 n c2], .int .i64 s.a, .int .i64 u.a] p.val fun e w' => e = .returned (.bool false) ∧ Ext p.val w' := fun p => by rw [← hab]; exact l32Above_any _ _ _ _ _ t b _ _ _ (((h.top.ext (E0.trans (E12.trans hI))).ext h7).ext p.ok) (((h.bot.ext (E0.trans (E12.trans hI))).ext h7).ext p.ok) hn16
                        go_wp2_with fail
                        refine wp_region_later (by kernel_rfl) (by kernel_rfl) ?_
                        repeat (go_big_quiet_step ((go_at_call 61; exact later_of (hcall _))))
                        refine wpQuiet_nil ?_
                        rintro w8 ⟨⟨_, h8⟩, rfl⟩
                        go_wp2
                        go_roundw
                        case rel => exact ⟨k + 1, by omega, by go_num, hI.trans (h7.trans h8), hS'⟩
                        case measure => simp [intOf]; omega
                      | true =>
                        have hcall : ∀ p : Later w7, Calls Try.prog 61 #[.agg #[.slice p1 n c1, .slice p2 n c2], .int .i64 s.a, .int .i64 u.a] p.val fun e w' => e = .returned (.bool true) ∧ Ext p.val w' := fun p => by rw [← hab]; exact l32Above_any _ _ _ _ _ t b _ _ _ (((h.top.ext (E0.trans (E12.trans hI))).ext h7).ext p.ok) (((h.bot.ext (E0.trans (E12.trans hI))).ext h7).ext p.ok) hn16
                        by_cases hyx2 : y ≤ x
                        · have hno := hid (show ¬ isCRs t b tr from fun hh => (((hcr.out.2 hh) i hlt s x hx.out hy.out).2 k hkN u y hu.out hy2.out).2 ⟨hab, hyx2⟩)
                          go_wp2_with fail
                          refine wp_region_later (by kernel_rfl) (by kernel_rfl) ?_
                          repeat (go_big_quiet_step ((go_at_call 61; exact later_of (hcall _))))
                          refine wpQuiet_nil ?_
                          rintro w8 ⟨⟨_, h8⟩, rfl⟩
                          go_wp2
                          go_ret
                          exact says_no hno.out ((E0.trans (E12.trans hI)).trans (h7.trans h8))
                        · have hS' := hid (okS_step hRk.out hu.out hy2.out hnA (fun hh => hyx2 hh.2))
                          have d9 : ¬ (y ≤ x) := hyx2
                          go_wp2_with fail
                          refine wp_region_later (by kernel_rfl) (by kernel_rfl) ?_
                          repeat (go_big_quiet_step ((go_at_call 61; exact later_of (hcall _))))
                          refine wpQuiet_nil ?_
                          rintro w8 ⟨⟨_, h8⟩, rfl⟩
                          go_wp2
                          go_roundw
                          case rel => exact ⟨k + 1, by omega, by go_num, hI.trans (h7.trans h8), hS'⟩
                          case measure => simp [intOf]; omega
              · have hkN' : k = N := by omega
                subst hkN'
                have hR' := hid (okS_next hR.out hx.out hy.out hxb hRk.out)
                go_wp2
                go_roundw
                case rel => exact ⟨i + 1, by omega, by go_num, hI, hR'⟩
                case measure => simp [intOf]; omega
        · have hiN : i = N := by omega
          subst hiN
          have hyes := hid (hcr.out.1 hR.out)
          go_wp2_with fail
          go_ret
          exact says_yes hyes.out (E0.trans (E12.trans hE))
    · have hno := hid (show ¬ isCRs t b tr from fun hh => hNS (l3.out.symm.trans hh.2.1))
      have hd : ((N : Int) != ((spansL t b).length : Int)) = true := by simp; omega
      go_wp2_with fail
      go_ret
      exact says_no hno.out (E0.trans E12)
end Go.Proofs.Ytkkhdjacclgcaaa
