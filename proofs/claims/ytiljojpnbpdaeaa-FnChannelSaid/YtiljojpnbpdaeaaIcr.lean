/- Contracts of IsChannelRouting (program): it tells just when the tracks are legal. Condition: at most 2^20 tracks. -/
import Derived.Test.YtiljojpnbpdaeaaLcs
import Derived.Test.YtiljojpnbpdaeaaMap
import Derived.StillTailTactics
namespace Go.Proofs.Ytiljojpnbpdaeaa
open Go.RowKit Go.Maps

/-- The call answers whether R, and only makes memory. -/
def Says (R : Prop) (w : World) (e : Ending) (w' : World) : Prop := ∃ r, e = .returned (.bool r) ∧ (r = true ↔ R) ∧ Ext w w'
theorem says_yes {R : Prop} {w w' : World} (h : R) (hE : Ext w w') : Says R w (.returned (.bool true)) w' := ⟨true, rfl, by simp [h], hE⟩
theorem says_no {R : Prop} {w w' : World} (h : ¬ R) (hE : Ext w w') : Says R w (.returned (.bool false)) w' := ⟨false, rfl, by simp [h], hE⟩

theorem owns_cap {w : World} {base : Nat} {e : TypeId} {size n c : Nat} {q : Option Addr} {xs : List Value} (h : w.ownsRow base e size (.slice q n c) n xs) : n ≤ c ∧ c ≤ 9223372036854775807 := by
  rcases h.2 with ⟨hv, h0⟩ | ⟨g, cap, cur, hv, _, _, hc, hm, _, _⟩
  · cases hv; simp
  · cases hv; unfold maxLen at hm; omega
def ovl (s u : Q3) : Prop := s.b ≤ u.c ∧ u.b ≤ s.c
/-- Track i is in range, and no earlier net of its track overlaps. -/
def okT (S : List Q3) (tr : List Int) (i : Nat) : Prop := ∀ s x, S[i]? = some s → tr[i]? = some x → (1 ≤ x ∧ x ≤ 12) ∧ ∀ k, k < i → ∀ u y, S[k]? = some u → tr[k]? = some y → ¬ (y = x ∧ s.b ≤ u.c ∧ u.b ≤ s.c)
/-- The tracks of the nets of the first j spans. -/
def ofK (S : List Q3) (tr : List Int) : Nat → Int → Option Int
  | 0 => fun _ => none
  | j + 1 => upd (ofK S tr j) (S.getD j ⟨0, 0, 0⟩).a (tr.getD j 0)
theorem ofK_succ {S : List Q3} {tr : List Int} {j : Nat} {s : Q3} {x : Int} (hs : S[j]? = some s) (hx : tr[j]? = some x) : ofK S tr (j + 1) = upd (ofK S tr j) s.a x := by
  rw [ofK, getD_of hs, getD_of hx]
def okC (t b : List Int) (f : Int → Option Int) (c : Nat) : Prop := ∀ x y, t[c]? = some x → b[c]? = some y → x ≠ 0 → y ≠ 0 → x ≠ y → (f x).getD 0 < (f y).getD 0
/-- What the program's IsChannelRouting tells. -/
def isCRi (t b tr : List Int) : Prop := chOk t b = true ∧ tr.length = (spansL t b).length ∧ (∀ i, i < (spansL t b).length → okT (spansL t b) tr i) ∧ ∀ c, c < t.length → okC t b (ofK (spansL t b) tr (spansL t b).length) c
theorem okT_next {S : List Q3} {tr : List Int} {j : Nat} {s : Q3} {x : Int} (h : ∀ i, i < j → okT S tr i) (hs : S[j]? = some s) (hx : tr[j]? = some x) (hxb : 1 ≤ x ∧ x ≤ 12)
    (hR : ∀ k', k' < j → ∀ u y, S[k']? = some u → tr[k']? = some y → ¬ (y = x ∧ s.b ≤ u.c ∧ u.b ≤ s.c)) : ∀ i, i < j + 1 → okT S tr i := by
  intro i hi
  by_cases hij : i = j
  · subst hij
    intro s' x' hs' hx'
    rw [hs] at hs'; rw [hx] at hx'; cases hs'; cases hx'
    exact ⟨hxb, hR⟩
  · exact h i (by omega)
theorem okC_next {t b : List Int} {g : Int → Option Int} {c : Nat} {x y : Int} (h : ∀ c', c' < c → okC t b g c') (hx : t[c]? = some x) (hy : b[c]? = some y) (hh : x ≠ 0 → y ≠ 0 → x ≠ y → (g x).getD 0 < (g y).getD 0) : ∀ c', c' < c + 1 → okC t b g c' := by
  intro c' hc'
  by_cases hcc : c' = c
  · subst hcc
    intro x' y' hx' hy'
    rw [hx] at hx'; rw [hy] at hy'; cases hx'; cases hy'
    exact hh
  · exact h c' (by omega)
theorem chOk_at {t b : List Int} (h : chOk t b = true) {c : Nat} {x y : Int} (hx : t[c]? = some x) (hy : b[c]? = some y) : 0 ≤ x ∧ x ≤ 12 ∧ 0 ≤ y ∧ y ≤ 12 := by
  simp only [chOk, Bool.and_eq_true, List.all_eq_true] at h
  have h1 := wit_iff.1 (h.2 x (List.mem_append.2 (Or.inl (List.mem_of_getElem? hx))))
  have h2 := wit_iff.1 (h.2 y (List.mem_append.2 (Or.inr (List.mem_of_getElem? hy))))
  exact ⟨h1.1, h1.2, h2.1, h2.2⟩
theorem icr_step {S : List Q3} {tr : List Int} {s : Q3} {x : Int} {k : Nat} {u : Q3} {y : Int} (h : Hid (∀ k', k' < k → ∀ u y, S[k']? = some u → tr[k']? = some y → ¬ (y = x ∧ s.b ≤ u.c ∧ u.b ≤ s.c)))
    (hu : S[k]? = some u) (hy : tr[k]? = some y) (hn : ¬ (y = x ∧ s.b ≤ u.c ∧ u.b ≤ s.c)) : Hid (∀ k', k' < k + 1 → ∀ u y, S[k']? = some u → tr[k']? = some y → ¬ (y = x ∧ s.b ≤ u.c ∧ u.b ≤ s.c)) := by
  intro k' hk u' y' hu' hy'
  by_cases hkk : k' = k
  · subst hkk
    rw [hu] at hu'; rw [hy] at hy'; cases hu'; cases hy'
    exact hn
  · exact h k' (by omega) u' y' hu' hy'
theorem net_at {t b : List Int} {n : Nat} : ∀ {j k : Nat} {s : Q3}, (spansK t b n j)[k]? = some s → 1 ≤ s.a ∧ s.a ≤ j ∧ 0 ≤ s.b ∧ s.b ≤ s.c ∧ s.c < n
  | 0, k, s, h => by simp [spansK] at h
  | j + 1, k, s, h => by
    rw [spansK, List.getElem?_append] at h
    split at h
    · have := net_at h; omega
    · have hm := List.mem_of_getElem? h
      simp only [spanOf] at hm
      split at hm
      · simp at hm
        subst hm
        have := sp_bd t b (j + 1) n
        simp
        omega
      · simp at hm

set_option maxRecDepth 100000 in
set_option maxHeartbeats 2000000 in
theorem IsChannelRouting_any (p1 p2 p3 : Option Addr) (n m c1 c2 N c3 : Nat) (t b tr : List Int) (w : World) (h : IsCh w p1 p2 n m c1 c2 t b) (h3 : SlT enc1 1 w p3 N tr) (hN : N ≤ 1048576) :
    Calls Try.prog 19 #[.agg #[.slice p1 n c1, .slice p2 m c2], .slice p3 N c3] w (Says (isCRi t b tr) w) := by
  have l1 := hid h.top.length
  have l2 := hid h.bot.length
  have l3 := hid h3.length
  cases hok : chOk t b with
  | false =>
    have hno : ¬ isCRi t b tr := fun hh => by rw [isCRi, hok] at hh; exact Bool.noConfusion hh.1
    go_enter Try.func19, Try.ntmps19
    go_wp2_with fail
    generalize hW : w.alloc _ = W0
    obtain ⟨E0, z0, b0⟩ := boxes1 hW
    clear hW z0 b0
    refine (validChannel_any _ _ _ _ _ _ t b _ (h.ext E0)).mono ?_
    rw [hok]
    rintro e w1 ⟨rfl, E1⟩
    go_wp2_with fail
    go_ret
    exact says_no hno (E0.trans E1)
  | true =>
    have hl := chOk_len hok
    have hnm : n = m := by have := l1.out; have := l2.out; omega
    subst hnm
    have hn16 : n ≤ 16 := by have := l1.out; omega
    clear hl
    have hokh := hid hok
    go_enter Try.func19, Try.ntmps19
    go_wp2_with fail
    generalize hW : w.alloc _ = W0
    obtain ⟨E0, z0, b0⟩ := boxes1 hW
    clear hW z0
    refine (validChannel_any _ _ _ _ _ _ t b _ (h.ext E0)).mono ?_
    rw [hok]
    clear hok
    rintro e w1 ⟨rfl, E1⟩
    have gb := hid (show Blk W0 _ [_, _] _ from b0)
    clear b0
    have g1 := (gb.out.ext E1).cells
    go_wp2_with fail
    refine (spans_any _ _ n _ _ t b _ (h.top.ext (E0.trans E1)) (h.bot.ext (E0.trans E1)) hn16).mono ?_
    rintro e w2 ⟨q, c, rfl, ho, E2⟩
    have hs := SlT.of_owns (l := spansL t b) enc3_len rfl ho
    have hlen : (spansL t b).length ≤ 12 := spansK_len _ _ _ _
    have hcap := owns_cap ho
    have hnet : ∀ (k : Nat) (s : Q3), (spansL t b)[k]? = some s → 1 ≤ s.a ∧ s.a ≤ 12 := fun k s hh => by have := net_at hh; omega
    have hnet := hid hnet
    clear ho g1
    have E12 := E1.trans E2
    by_cases hNS : N = (spansL t b).length
    · have hcr : Hid (((∀ i, i < N → okT (spansL t b) tr i) ∧ ∀ c, c < n → okC t b (ofK (spansL t b) tr N) c) ↔ isCRi t b tr) := by
        show _ ↔ _
        rw [isCRi, ← hNS, l1.out, l3.out]
        exact ⟨fun hh => ⟨hokh.out, rfl, hh.1, hh.2⟩, fun hh => ⟨hh.2.2.1, hh.2.2.2⟩⟩
      generalize spansL t b = S at hs hlen hNS hcr hnet hcap ⊢
      rw [← hNS] at hs hlen hcap ⊢
      replace hNS := hid hNS
      have hmm := @run_makeMap Try.prog
      go_wp2
      generalize hW : w2.alloc _ = W3
      obtain ⟨E3, z3, b3⟩ := boxes1 hW
      have hm0 : MapI Try.prog 2 2 kI okI W3 w2.heap.size 0 (fun _ => none) := by rw [← hW]; exact MapI.made _
      clear hW z3 b3
      go_loopw [27] (fun i wr => ∃ j : Nat, j ≤ N ∧ i = .int .i64 j ∧ Ext w2 wr ∧ MapI Try.prog 2 2 kI okI wr w2.heap.size j (ofK S tr j) ∧ Hid (∀ i, i < j → okT S tr i)) (fun i _ => N - (intOf i).toNat)
      case atStart => exact ⟨0, by omega, rfl, E3, hm0, fun i hi => absurd hi (Nat.not_lt_zero _)⟩
      case round =>
        clear hm0 E3 W3
        obtain ⟨j, hj, rfl, hE, hM, hR⟩ := hrel
        by_cases hlt : j < N
        · obtain ⟨B, off, s, rfl, hb, hx, x0, x1, x2⟩ := (hs.ext hE).three hlt
          obtain ⟨B', off', x, rfl, hb', hy, y0⟩ := (h3.ext (E0.trans (E12.trans hE))).int hlt
          have hltI : (j : Int) < N := by omega
          have hlB := hM.lt
          cases hq : wit x 1 12 with
          | false =>
            have hno : ¬ isCRi t b tr := fun hh => by
              have := (hcr.out.2 hh).1 j hlt s x hx.out hy.out
              have hq' := wit_iff.2 this.1
              rw [hq] at hq'; cases hq'
            go_wp2_with (go_at_call 46; refine (within_any _ _ _ _).mono ?_; rw [hq]; rintro e w' ⟨rfl, rfl⟩)
            go_ret
            exact says_no hno ((E0.trans (E12.trans hE)).alloc _)
          | true =>
            have hxb := wit_iff.1 hq
            have hnj := hnet.out j s hx.out
            go_wp2_with (go_at_call 46; refine (within_any _ _ _ _).mono ?_; rw [hq]; rintro e w' ⟨rfl, rfl⟩)
            generalize hW : wr.alloc _ = W4
            obtain ⟨E4, z4, b4⟩ := boxes1 hW
            clear hW
            have hB4 := hid (show Blk W4 _ [_, _, _] _ from b4)
            clear b4
            have k4 := hB4.out.cells
            have y4 := (E4.cells _ _ hb').trans y0
            have hM4 := hM.ext E4
            go_still_tail 7, (by kernel_rfl)
            go_wp2_with (at_mapUpdate; refine wpList_put _ rfl _ _ _ 91 rfl lawI Try.underlying91 Try.underlying2 kI_inj kI_key rfl (hM4.drew) (by unfold maxLen; omega) s.a (okI_of (by omega) (by omega)) _ rfl (keyI (okI_of (by omega) (by omega))) x rfl (okI_of (by omega) (by omega)) ?_; intro w5 hM5 hg5)
            have E5 : Ext w2 w5 := ((hE.trans E4).drew).grown hg5 (fun k hk => by cases hk; exact Nat.le_refl _)
            have hB5 : Blk w5 wr.heap.size _ _ := (hg5.block _ hB4.out.lt (fun hh => by have := Option.some.inj hh; omega)).trans hB4.out
            clear hB4 k4 y4 hM4 z4 E4
            rw [← ofK_succ hx.out hy.out] at hM5
            have k5 := hB5.cells
            clear x0 x1 x2 y0
            have hltj : (j : Int) ≤ N := by omega
            have hcap2 : (j : Int) ≤ c := by omega
            have hcap3 := hcap.2
            go_wp2
            go_loopw [49] (fun i wr' => ∃ k : Nat, k ≤ j ∧ i = .int .i64 k ∧ Ext w5 wr' ∧ Hid (∀ k', k' < k → ∀ u y, S[k']? = some u → tr[k']? = some y → ¬ (y = x ∧ s.b ≤ u.c ∧ u.b ≤ s.c))) (fun i _ => j - (intOf i).toNat)
            case atStart => exact ⟨0, by omega, rfl, Ext.refl _, fun k hk => absurd hk (Nat.not_lt_zero _)⟩
            case round =>
              obtain ⟨k, hk, rfl, hI, hRk⟩ := hrel
              by_cases hkj : k < j
              · obtain ⟨B1, off1, u, hp1, hb1, hu, u0, u1, u2⟩ := (hs.ext (E5.trans hI)).three (show k < N by omega)
                obtain ⟨B2, off2, y, hp2, hb2, hy2, v0⟩ := (h3.ext (E0.trans (E12.trans (E5.trans hI)))).int (show k < N by omega)
                obtain ⟨B3, off3, x', hp3, hb3, hy3, v1⟩ := (h3.ext (E0.trans (E12.trans (E5.trans hI)))).int hlt
                cases hp1
                cases hp2
                cases hp3
                obtain rfl : x = x' := Option.some.inj (hy.out.symm.trans hy3.out)
                have k6 := (hB5.ext hI).cells
                have hB6 := hid (hB5.ext hI)
                have hkjI : (k : Int) < j := by omega
                have hkNI : (k : Int) < N := by omega
                clear k5
                go_wp2_with fail
                generalize hW : wr.alloc _ = W6
                obtain ⟨E6, z6, b6⟩ := boxes1 hW
                clear hW z6 k6
                have k7 := (show Blk W6 _ [_, _, _] _ from b6).cells
                have k6 := (hB6.out.ext E6).cells
                have v0' := (E6.cells _ _ hb2).trans v0
                have v1' := (E6.cells _ _ hb3).trans v1
                have q1 := Nat.lt_of_lt_of_le hb2 E6.le
                have q2 := (show Blk W6 _ [_, _, _] _ from b6).lt
                have q3 := (hB6.out.ext E6).lt
                clear v0 v1 b6
                by_cases hyx : y = x
                · by_cases hc1 : s.b ≤ u.c
                  · by_cases hc2 : u.b ≤ s.c
                    · have hno : ¬ isCRi t b tr := fun hh => by
                        exact ((hcr.out.2 hh).1 j hlt s x hx.out hy.out).2 k hkj u y hu.out hy2.out ⟨hyx, hc1, hc2⟩
                      have hd : (y == x) = true := by simp [hyx]
                      clear hyx
                      refine wp_region_later (by kernel_rfl) (by kernel_rfl) ?_
                      repeat (go_big_quiet_step (fail))
                      refine wpQuiet_nil ?_
                      rintro w7 ⟨⟨_, h7⟩, rfl⟩
                      go_wp2
                      go_ret
                      exact says_no hno ((E0.trans (E12.trans (E5.trans hI))).trans (E6.trans h7))
                    · have hd : (y == x) = true := by simp [hyx]
                      clear hyx
                      refine wp_region_later (by kernel_rfl) (by kernel_rfl) ?_
                      repeat (go_big_quiet_step (fail))
                      refine wpQuiet_nil ?_
                      rintro w7 ⟨⟨_, h7⟩, rfl⟩
                      go_wp2
                      go_roundw
                      case rel => exact ⟨k + 1, by omega, by go_num, hI.trans (E6.trans h7), icr_step hRk hu.out hy2.out (fun hh => hc2 hh.2.2)⟩
                      case measure => simp [intOf]; omega
                  · have hd : (y == x) = true := by simp [hyx]
                    clear hyx
                    have hd2 : decide (s.b ≤ u.c) = false := by simpa using hc1
                    refine wp_region_later (by kernel_rfl) (by kernel_rfl) ?_
                    repeat (go_big_quiet_step (fail))
                    refine wpQuiet_nil ?_
                    rintro w7 ⟨⟨_, h7⟩, rfl⟩
                    go_wp2
                    go_roundw
                    case rel => exact ⟨k + 1, by omega, by go_num, hI.trans (E6.trans h7), icr_step hRk hu.out hy2.out (fun hh => hc1 hh.2.1)⟩
                    case measure => simp [intOf]; omega
                · have hd : (y == x) = false := by simp [hyx]
                  refine wp_region_later (by kernel_rfl) (by kernel_rfl) ?_
                  repeat (go_big_quiet_step (fail))
                  refine wpQuiet_nil ?_
                  rintro w7 ⟨⟨_, h7⟩, rfl⟩
                  go_wp2
                  go_roundw
                  case rel => exact ⟨k + 1, by omega, by go_num, hI.trans (E6.trans h7), icr_step hRk hu.out hy2.out (fun hh => hyx hh.1)⟩
                  case measure => simp [intOf]; omega
              · have hkj' : k = j := by omega
                subst hkj'
                have hR' := hid (okT_next hR.out hx.out hy.out hxb hRk.out)
                have hM' := hM5.ext hI
                go_wp2
                go_roundw
                case rel => exact ⟨k + 1, by omega, by go_num, E5.trans hI, hM', hR'⟩
                case measure => simp [intOf]; omega
        · have hjN : j = N := by omega
          subst hjN
          have gk := (gb.out.ext (E12.trans hE)).cells
          have hT := h.top.ext (E0.trans (E12.trans hE))
          have hBt := h.bot.ext (E0.trans (E12.trans hE))
          go_wp2
          go_loop [82] (fun i => ∃ cc : Nat, cc ≤ n ∧ i = .int .i64 cc ∧ Hid (∀ c', c' < cc → okC t b (ofK S tr j) c')) (fun i => n - (intOf i).toNat)
          case atStart => exact ⟨0, by omega, rfl, fun c hc => absurd hc (Nat.not_lt_zero _)⟩
          case round =>
            obtain ⟨cc, hcc, rfl, hC⟩ := hrel
            by_cases hcn : cc < n
            · obtain ⟨Bt, ot, x, rfl, hbt, hx, t0⟩ := hT.int hcn
              obtain ⟨Bb, ob, y, rfl, hbb, hy, b0⟩ := hBt.int hcn
              obtain ⟨hx0, hx12, hy0, hy12⟩ := chOk_at hokh.out hx.out hy.out
              have hcnI : (cc : Int) < n := by omega
              by_cases cx : x = 0
              · have d1 : (x != 0) = false := by simp [cx]
                have hC' := hid (okC_next hC.out hx.out hy.out (fun h1 _ _ => absurd cx h1))
                clear cx
                go_wp2
                go_round
                case rel => exact ⟨cc + 1, by omega, by go_num, hC'⟩
                case measure => simp [intOf]; omega
              · have d1 : (x != 0) = true := by simp [cx]
                by_cases cy : y = 0
                · have d2 : (y != 0) = false := by simp [cy]
                  have hC' := hid (okC_next hC.out hx.out hy.out (fun _ h1 _ => absurd cy h1))
                  clear cy cx
                  go_wp2
                  go_round
                  case rel => exact ⟨cc + 1, by omega, by go_num, hC'⟩
                  case measure => simp [intOf]; omega
                · have d2 : (y != 0) = true := by simp [cy]
                  by_cases cxy : x = y
                  · have d3 : (x != y) = false := by simp [cxy]
                    have hC' := hid (okC_next hC.out hx.out hy.out (fun _ _ h1 => absurd cxy h1))
                    clear cxy cy cx
                    go_wp2
                    go_round
                    case rel => exact ⟨cc + 1, by omega, by go_num, hC'⟩
                    case measure => simp [intOf]; omega
                  · have d3 : (x != y) = true := by simp [cxy]
                    have r1 := hM.run_get lawI Try.underlying91 Try.underlying2 (zeroI _) (okI_of (x := x) (by omega) (by omega)) (keyI (okI_of (by omega) (by omega)))
                    have r2 := hM.run_get lawI Try.underlying91 Try.underlying2 (zeroI _) (okI_of (x := y) (by omega) (by omega)) (keyI (okI_of (by omega) (by omega)))
                    by_cases cf : (ofK S tr j x).getD 0 < (ofK S tr j y).getD 0
                    · have hC' := hid (okC_next hC.out hx.out hy.out (fun _ _ _ => cf))
                      generalize (ofK S tr j x).getD 0 = fx at r1 cf
                      generalize (ofK S tr j y).getD 0 = fy at r2 cf
                      clear cxy cy cx
                      go_wp2
                      go_round
                      case rel => exact ⟨cc + 1, by omega, by go_num, hC'⟩
                      case measure => simp [intOf]; omega
                    · have hno := hid (show ¬ isCRi t b tr from fun hh => cf ((hcr.out.2 hh).2 cc hcn x y hx.out hy.out cx cy cxy))
                      generalize (ofK S tr j x).getD 0 = fx at r1 cf
                      generalize (ofK S tr j y).getD 0 = fy at r2 cf
                      clear cxy cy cx
                      go_wp2
                      go_ret
                      exact says_no hno.out (E0.trans (E12.trans hE))
            · have hyes := hid (hcr.out.1 ⟨hR.out, fun c hc => hC.out c (by omega)⟩)
              go_wp2_with fail
              go_ret
              exact says_yes hyes.out (E0.trans (E12.trans hE))
    · have hno : ¬ isCRi t b tr := fun hh => hNS (l3.out.symm.trans hh.2.1)
      have hd : ((N : Int) != ((spansL t b).length : Int)) = true := by simp; omega
      go_wp2_with fail
      go_ret
      exact says_no hno (E0.trans E12)

/-- Is the net x above the net y in a column? -/
def aboveK (t b : List Int) (x y : Int) (k : Nat) : Bool := x != y && ((t.zip b).take k).any fun p => p.1 == x && p.2 == y
theorem aboveK_succ {t b : List Int} {x y : Int} {k : Nat} {u v : Int} (hu : t[k]? = some u) (hv : b[k]? = some v) : aboveK t b x y (k + 1) = (aboveK t b x y k || (x != y && (u == x && v == y))) := by
  have h : (t.zip b)[k]? = some (u, v) := by rw [List.getElem?_zip_eq_some]; exact ⟨hu, hv⟩
  rw [aboveK, take_snoc h, List.any_append, aboveK]
  cases x != y <;> cases (((t.zip b).take k).any fun p => p.1 == x && p.2 == y) <;> simp
theorem aboveK_mono {t b : List Int} {x y : Int} {k m : Nat} (h : aboveK t b x y k = true) (hk : k ≤ m) : aboveK t b x y m = true := by
  simp only [aboveK, Bool.and_eq_true, List.any_eq_true] at h ⊢
  obtain ⟨h1, p, hp, h2⟩ := h
  exact ⟨h1, p, (List.take_subset_take_left _ hk) hp, h2⟩
def aboveB (t b : List Int) (x y : Int) : Bool := aboveK t b x y t.length
set_option maxRecDepth 100000 in
set_option maxHeartbeats 1000000 in
theorem l32Above_any (p1 p2 : Option Addr) (n c1 c2 : Nat) (t b : List Int) (x y : Int) (w : World) (h1 : SlT enc1 1 w p1 n t) (h2 : SlT enc1 1 w p2 n b) (hn : n ≤ 16) :
    Calls Try.prog 111 #[.agg #[.slice p1 n c1, .slice p2 n c2], .int .i64 x, .int .i64 y] w fun e w' => e = .returned (.bool (aboveB t b x y)) ∧ Ext w w' := by
  have l1 := hid h1.length
  go_enter Try.func111, Try.ntmps111
  go_wp2
  generalize hW : w.alloc _ = W0
  obtain ⟨E0, z0, b0⟩ := boxes1 hW
  clear hW z0
  have gk := (show Blk W0 _ [_, _] _ from b0).cells
  clear b0
  go_loop [7] (fun i => ∃ k : Nat, k ≤ n ∧ i = .int .i64 k ∧ Hid (aboveK t b x y k = false)) (fun i => n - (intOf i).toNat)
  case atStart => exact ⟨0, by omega, rfl, by simp [Hid, aboveK]⟩
  case round =>
    obtain ⟨k, hk, rfl, hA⟩ := hrel
    by_cases hlt : k < n
    · obtain ⟨B1, o1, u, rfl, hb1, hu, u0⟩ := (h1.ext E0).int hlt
      obtain ⟨B2, o2, v, rfl, hb2, hv, v0⟩ := (h2.ext E0).int hlt
      have hltI : (k : Int) < n := by omega
      have hs := hid (aboveK_succ (x := x) (y := y) hu.out hv.out)
      by_cases cxy : (x != y && (u == x && v == y)) = true
      · have hr : Hid (true = aboveB t b x y) := by
          refine (aboveK_mono (k := k + 1) ?_ (by rw [l1.out]; omega)).symm
          rw [hs.out, cxy, Bool.or_true]
        simp only [Bool.and_eq_true] at cxy
        obtain ⟨d1, d2, d3⟩ := cxy
        go_wp2
        go_ret
        exact ⟨ret_bool hr.out, E0⟩
      · have hr : Hid (aboveK t b x y (k + 1) = false) := by
          show _ = _
          rw [Bool.not_eq_true] at cxy
          rw [hs.out, hA.out, cxy]; rfl
        by_cases d1 : (x != y) = true
        · by_cases d2 : (u == x) = true
          · have d3 : (v == y) = false := by simp only [d1, d2, Bool.true_and] at cxy; simpa using cxy
            clear cxy
            go_wp2
            go_round
            case rel => exact ⟨k + 1, by omega, by go_num, hr⟩
            case measure => simp [intOf]; omega
          · rw [Bool.not_eq_true] at d2
            clear cxy
            go_wp2
            go_round
            case rel => exact ⟨k + 1, by omega, by go_num, hr⟩
            case measure => simp [intOf]; omega
        · rw [Bool.not_eq_true] at d1
          clear cxy
          go_wp2
          go_round
          case rel => exact ⟨k + 1, by omega, by go_num, hr⟩
          case measure => simp [intOf]; omega
    · have hr : Hid (false = aboveB t b x y) := by
        show _ = _
        obtain rfl : k = n := by omega
        rw [aboveB, l1.out, hA.out]
      go_wp2_with fail
      go_ret
      exact ⟨ret_bool hr.out, E0⟩
end Go.Proofs.Ytiljojpnbpdaeaa
