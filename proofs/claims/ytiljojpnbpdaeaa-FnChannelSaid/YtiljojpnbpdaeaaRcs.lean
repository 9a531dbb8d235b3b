/- Contracts of the reference's l32Free, l32Fill and RouteChannel: the tracks are filled one after the other. Condition: at most 2^20 columns. -/
import Derived.Test.YtiljojpnbpdaeaaRcq
namespace Go.Proofs.Ytiljojpnbpdaeaa
open Go.RowKit

theorem ints_flat : ∀ l : List Int, l.flatMap enc1 = ints l
  | [] => rfl
  | x :: l => by rw [List.flatMap_cons, ints_flat l]; rfl
theorem ints_set (T : List Int) (k : Nat) (x : Int) : (ints T).set k (.int .i64 x) = ints (T.set k x) := by rw [ints, ints, List.map_set]
theorem ints_at {T : List Int} {k : Nat} {x : Int} (h : T[k]? = some x) : (ints T)[k]? = some (.int .i64 x) := by rw [ints, List.getElem?_map, h]; rfl
set_option maxRecDepth 100000 in
set_option maxHeartbeats 4000000 in
theorem l32Free_any (p1 p2 q1 q2 : Option Addr) (n c1 c2 N d1 d2 : Nat) (t b : List Int) (S : List Q3) (T : List Int) (k : Nat) (tr : Int) (w : World) (h1 : SlT enc1 1 w p1 n t) (h2 : SlT enc1 1 w p2 n b) (hS : SlT enc3 3 w q1 N S) (hT : SlT enc1 1 w q2 N T) (hn : n ≤ 16) (hk : k < N) (hN : N ≤ 12) :
    Calls Try.prog 72 #[.agg #[.slice p1 n c1, .slice p2 n c2], .slice q1 N d1, .slice q2 N d2, .int .i64 k, .int .i64 tr] w fun e w' => e = .returned (.bool (freeB t b S T k tr)) ∧ Ext w w' := by
  have lS := hid hS.length
  have hkI : (k : Int) < N := by omega
  go_enter Try.func72, Try.ntmps72
  go_wp2
  generalize hW : w.alloc _ = W0
  obtain ⟨E0, z0, b0⟩ := boxes1 hW
  clear hW z0
  have gb := hid (show Blk W0 _ [_, _] _ from b0)
  clear b0
  go_loopw [11] (fun i wr => ∃ j : Nat, j ≤ N ∧ i = .int .i64 j ∧ Ext W0 wr ∧ Hid (∀ i, i < j → freeP t b S T k tr i = true)) (fun i _ => N - (intOf i).toNat)
  case atStart => exact ⟨0, by omega, rfl, Ext.refl _, fun i hi => absurd hi (Nat.not_lt_zero _)⟩
  case round =>
    obtain ⟨i, hi, rfl, hE, hR⟩ := hrel
    by_cases hlt : i < N
    · obtain ⟨B1, o1, u, rfl, hb1, hu, u0, _, _⟩ := (hS.ext (E0.trans hE)).three hlt
      obtain ⟨_, _, s, hp, hb2, hs, s0, _, _⟩ := (hS.ext (E0.trans hE)).three hk
      cases hp
      obtain ⟨B3, o3, y, rfl, hb3, hy, y0⟩ := (hT.ext (E0.trans hE)).int hlt
      have hltI : (i : Int) < N := by omega
      have gk := (gb.out.ext hE).cells
      have gl := (gb.out.ext hE).lt
      have hfp : Hid (freeP t b S T k tr i = !(aboveB t b u.a s.a && (decide (y = 0) || decide (tr ≤ y)))) := by show _ = _; rw [freeP, Sb_of hu.out, Sb_of hs.out, Tn_of hy.out]
      have hcall : ∀ p : Later wr, Calls Try.prog 111 #[.agg #[.slice p1 n c1, .slice p2 n c2], .int .i64 u.a, .int .i64 s.a] p.val fun e w' => e = .returned (.bool (aboveB t b u.a s.a)) ∧ Ext p.val w' := fun p => l32Above_any _ _ _ _ _ t b _ _ _ ((h1.ext (E0.trans hE)).ext p.ok) ((h2.ext (E0.trans hE)).ext p.ok) hn
      generalize aboveB t b u.a s.a = ab at hcall hfp
      cases ab with
      | false =>
        have hnx : Hid (∀ j, j < i + 1 → freeP t b S T k tr j = true) := fun j hj => by
          by_cases he : j = i
          · subst he; rw [hfp.out]; rfl
          · exact hR.out j (by omega)
        go_wp2_with fail
        refine wp_region_later (by kernel_rfl) (by kernel_rfl) ?_
        repeat (go_big_quiet_step ((go_at_call 111; exact later_of (hcall _))))
        refine wpQuiet_nil ?_
        rintro w7 ⟨⟨_, h7⟩, rfl⟩
        go_wp2
        go_roundw
        case rel => exact ⟨i + 1, by omega, by go_num, hE.trans h7, hnx⟩
        case measure => simp [intOf]; omega
      | true =>
        by_cases hy0 : y = 0
        · have d1 : (y == 0) = true := by simp [hy0]
          have hno : Hid (false = freeB t b S T k tr) := (freeB_no (i := i) (by rw [lS.out]; omega) (by rw [hfp.out]; simp [hy0])).symm
          replace hy0 := hid hy0
          go_wp2_with fail
          refine wp_region_later (by kernel_rfl) (by kernel_rfl) ?_
          repeat (go_big_quiet_step ((go_at_call 111; exact later_of (hcall _))))
          refine wpQuiet_nil ?_
          rintro w7 ⟨⟨_, h7⟩, rfl⟩
          go_wp2
          go_ret
          exact ⟨ret_bool hno.out, (E0.trans hE).trans h7⟩
        · have d1 : (y == 0) = false := by simp [hy0]
          replace hy0 := hid hy0
          by_cases hty : tr ≤ y
          · have hno : Hid (false = freeB t b S T k tr) := (freeB_no (i := i) (by rw [lS.out]; omega) (by rw [hfp.out]; simp [hty])).symm
            go_wp2_with fail
            refine wp_region_later (by kernel_rfl) (by kernel_rfl) ?_
            repeat (go_big_quiet_step ((go_at_call 111; exact later_of (hcall _))))
            refine wpQuiet_nil ?_
            rintro w7 ⟨⟨_, h7⟩, rfl⟩
            go_wp2
            go_ret
            exact ⟨ret_bool hno.out, (E0.trans hE).trans h7⟩
          · have hnx : Hid (∀ j, j < i + 1 → freeP t b S T k tr j = true) := fun j hj => by
              by_cases he : j = i
              · subst he; rw [hfp.out]; simp [hy0.out, hty]
              · exact hR.out j (by omega)
            go_wp2_with fail
            refine wp_region_later (by kernel_rfl) (by kernel_rfl) ?_
            repeat (go_big_quiet_step ((go_at_call 111; exact later_of (hcall _))))
            refine wpQuiet_nil ?_
            rintro w7 ⟨⟨_, h7⟩, rfl⟩
            go_wp2
            go_roundw
            case rel => exact ⟨i + 1, by omega, by go_num, hE.trans h7, hnx⟩
            case measure => simp [intOf]; omega
    · have hr : Hid (true = freeB t b S T k tr) := (freeB_yes (fun i hi => hR.out i (by have := lS.out; omega))).symm
      go_wp2_with fail
      go_ret
      exact ⟨ret_bool hr.out, E0.trans hE⟩
/-- A row of ints of the call's own, read. -/
theorem owns_ints {w : World} {base : Nat} {g n c : Nat} {T : List Int} {e : TypeId} (h : w.ownsRow base e 1 (.slice (some ⟨g, 0, none⟩) n c) n (ints T)) : SlT enc1 1 w (some ⟨g, 0, none⟩) n T := by
  have hl : T.length = n := by have := h.1; simpa [ints] using this
  exact SlT.of_owns enc1_len hl (by rw [ints_flat]; exact h)
theorem rin_hit {t b : List Int} {S : List Q3} {tr : Int} {col k : Nat} {s0 s : FS} (hs : rin t b S tr col s0 k = s) (h : (Sb S k).b = (col : Int)) : rin t b S tr col s0 (k + 1) = fstep t b S tr s k := by rw [rin, if_pos h, hs]
theorem rin_miss {t b : List Int} {S : List Q3} {tr : Int} {col k : Nat} {s0 s : FS} (hs : rin t b S tr col s0 k = s) (h : ¬ (Sb S k).b = (col : Int)) : rin t b S tr col s0 (k + 1) = s := by rw [rin, if_neg h, hs]
set_option maxRecDepth 100000 in
set_option maxHeartbeats 8000000 in
theorem l32Fill_any (p1 p2 q1 : Option Addr) (n c1 c2 N d1 g d2 : Nat) (t b : List Int) (S : List Q3) (T : List Int) (tr : Int) (w0 w : World) (hw : Ext w0 w) (h1 : SlT enc1 1 w0 p1 n t) (h2 : SlT enc1 1 w0 p2 n b) (hS : SlT enc3 3 w0 q1 N S) (ho : w.ownsRow w0.heap.size 2 1 (.slice (some ⟨g, 0, none⟩) N d2) N (ints T)) (hn : n ≤ 16) (hN : N ≤ 12) :
    Calls Try.prog 33 #[.agg #[.slice p1 n c1, .slice p2 n c2], .slice q1 N d1, .slice (some ⟨g, 0, none⟩) N d2, .int .i64 tr] w fun e w' => e = .returned (.int .i64 (fillS t b S n tr T).c) ∧ w'.ownsRow w0.heap.size 2 1 (.slice (some ⟨g, 0, none⟩) N d2) N (ints (fillS t b S n tr T).T) ∧ Ext w0 w' := by
  have lS := hid hS.length
  have lt := hid h1.length
  go_enter Try.func33, Try.ntmps33
  go_wp2
  generalize hW : w.alloc _ = W0
  obtain ⟨E0, z0, b0⟩ := boxes1 hW
  clear hW z0
  have hg0 := hid (owns_lt ho)
  replace ho := owns_ext ho E0
  have gb := hid (show Blk W0 w.heap.size [_, _] _ from b0)
  clear b0
  have hEw : Ext w0 W0 := hw.trans E0
  replace hw := hid hw
  go_loopw [9, 10, 11, 12] (fun cv rv colv _ wr => ∃ (col : Nat) (st : FS), col ≤ n ∧ colv = .int .i64 col ∧ cv = .int .i64 st.c ∧ rv = .int .i64 st.r ∧ Hid (rout t b S tr T col = st) ∧ 0 ≤ st.c ∧ st.c ≤ 12 * (col : Int) ∧ Ext w0 wr ∧ Blk wr w.heap.size [.slice p1 n c1, .slice p2 n c2] 28 ∧ wr.ownsRow w0.heap.size 2 1 (.slice (some ⟨g, 0, none⟩) N d2) N (ints st.T)) (fun _ _ i _ _ => n - (intOf i).toNat)
  case atStart => exact ⟨0, ⟨T, -1, 0⟩, by omega, rfl, rfl, rfl, rfl, by simp, by simp, hEw, gb.out, ho⟩
  case round =>
    clear ho gb hEw
    obtain ⟨col, s0, hcol, rfl, rfl, rfl, hs0, hc0, hc1, hE, hB, ho⟩ := hrel
    have gk := hB.cells
    have gl := hB.lt
    by_cases hlt : col < n
    · have hltI : (col : Int) < n := by omega
      have hcI : (col : Int) ≤ 16 := by omega
      go_wp2
      go_loopw [9, 10, 12] (fun cv rv kv wr => ∃ (k : Nat) (st : FS), k ≤ N ∧ kv = .int .i64 k ∧ cv = .int .i64 st.c ∧ rv = .int .i64 st.r ∧ Hid (rin t b S tr col s0 k = st) ∧ 0 ≤ st.c ∧ st.c ≤ 12 * (col : Int) + k ∧ Ext w0 wr ∧ Blk wr w.heap.size [.slice p1 n c1, .slice p2 n c2] 28 ∧ wr.ownsRow w0.heap.size 2 1 (.slice (some ⟨g, 0, none⟩) N d2) N (ints st.T)) (fun _ _ i _ => N - (intOf i).toNat)
      case atStart => exact ⟨0, s0, by omega, rfl, rfl, rfl, rfl, hc0, by omega, hE, hB, ho⟩
      case round =>
        clear ho hB gk gl hE
        obtain ⟨k, st, hk, rfl, rfl, rfl, hst, hk0, hk1, hE, hB, ho⟩ := hrel
        by_cases hkN : k < N
        · have hkI : (k : Int) < N := by omega
          have hoT := owns_ints ho
          obtain ⟨B1, o1, s, rfl, hb0, hs, _, s1', s2'⟩ := hS.three hkN
          have s1 := (hE.cells _ _ hb0).trans s1'
          have s2 := (hE.cells _ _ hb0).trans s2'
          have hb1 : B1 < wr.heap.size := Nat.lt_of_lt_of_le hb0 hE.le
          clear s1' s2'
          obtain ⟨_, _, y, hp, hb2, hy, y0⟩ := hoT.int hkN
          cases hp
          rw [Nat.zero_add] at y0
          have gk := hB.cells
          have gl := hB.lt
          have hf := owns_free ho
          have hsb := hid (Sb_of hs.out)
          have hyt := hid (Tn_of hy.out)
          have hgb : ¬ (g = B1) := fun e => by have := hg0.out.1; omega
          have hgb' : ¬ (B1 = g) := fun e => by have := hg0.out.1; omega
          by_cases hcb : s.b = (col : Int)
          · have e1 : (s.b == (col : Int)) = true := by simp [hcb]
            have hh := hid (rin_hit hst.out (by rw [hsb.out]; exact hcb))
            replace hcb := hid hcb
            by_cases hy0 : y = 0
            · have e2 : (y == 0) = true := by simp [hy0]
              replace hy0 := hid hy0
              by_cases hr : st.r < (col : Int)
              · have hcall := l32Free_any p1 p2 (some ⟨B1, o1, none⟩) (some ⟨g, 0, none⟩) n c1 c2 N d1 d2 t b S st.T k tr wr (h1.ext hE) (h2.ext hE) (hS.ext hE) hoT hn hkN hN
                cases hfr : freeB t b S st.T k tr with
                | true =>
                  rw [hfr] at hcall
                  have hnx : Hid (rin t b S tr col s0 (k + 1) = ⟨st.T.set k tr, s.c, st.c + 1⟩) := by
                    show _ = _
                    rw [hh.out, fstep_hit (by rw [hyt.out]; exact hy0.out) (by rw [hsb.out, hcb.out]; exact hr) hfr, hsb.out]
                  clear hfr
                  replace hcall := hid hcall
                  go_wp2_with (go_at_call 72; refine hcall.out.mono ?_; rintro e w7 ⟨rfl, h7⟩; have ho7 := owns_ext ho h7; have hB7 := hB.ext h7; have hE7 := hE.trans h7; have gk7 := hB7.cells; have hf7 := owns_free ho7; have hgl7 := (owns_lt ho7).2; have s27 := (h7.cells _ _ hb1).trans s2; have y07 := (h7.cells _ _ hb2).trans y0)
                  go_roundw
                  case rel =>
                    refine ⟨k + 1, ⟨st.T.set k tr, s.c, st.c + 1⟩, by omega, by go_num, by go_num, rfl, hnx, by simp only; omega, by simp only; omega, hE7.setCell (p := ⟨g, k, none⟩) hg0.out.1 _, hB7.other (B := g) k _ (by have := hg0.out.2; omega), ?_⟩
                    have := owns_set ho7 k (.int .i64 tr)
                    rw [ints_set] at this
                    exact this
                  case measure => simp [intOf]; omega
                | false =>
                  rw [hfr] at hcall
                  have hnx : Hid (rin t b S tr col s0 (k + 1) = st) := by
                    show _ = _
                    rw [hh.out, fstep_off (Or.inr (Or.inr hfr))]
                  clear hfr
                  replace hcall := hid hcall
                  go_wp2_with (go_at_call 72; refine hcall.out.mono ?_; rintro e w7 ⟨rfl, h7⟩)
                  go_roundw
                  case rel => exact ⟨k + 1, st, by omega, by go_num, rfl, rfl, hnx, hk0, by omega, hE.trans h7, hB.ext h7, owns_ext ho h7⟩
                  case measure => simp [intOf]; omega
              · have hnx : Hid (rin t b S tr col s0 (k + 1) = st) := by
                  show _ = _
                  rw [hh.out, fstep_off (Or.inr (Or.inl (by rw [hsb.out, hcb.out]; exact hr)))]
                go_wp2
                go_roundw
                case rel => exact ⟨k + 1, st, by omega, by go_num, rfl, rfl, hnx, hk0, by omega, hE, hB, ho⟩
                case measure => simp [intOf]; omega
            · have e2 : (y == 0) = false := by simp [hy0]
              have hnx : Hid (rin t b S tr col s0 (k + 1) = st) := by
                show _ = _
                rw [hh.out, fstep_off (Or.inl (by rw [hyt.out]; exact hy0))]
              replace hy0 := hid hy0
              go_wp2
              go_roundw
              case rel => exact ⟨k + 1, st, by omega, by go_num, rfl, rfl, hnx, hk0, by omega, hE, hB, ho⟩
              case measure => simp [intOf]; omega
          · have e1 : (s.b == (col : Int)) = false := by simp [hcb]
            have hnx := hid (rin_miss hst.out (by rw [hsb.out]; exact hcb))
            replace hcb := hid hcb
            go_wp2
            go_roundw
            case rel => exact ⟨k + 1, st, by omega, by go_num, rfl, rfl, hnx, hk0, by omega, hE, hB, ho⟩
            case measure => simp [intOf]; omega
        · obtain rfl : k = N := by omega
          have hnx : Hid (rout t b S tr T (col + 1) = st) := by show _ = _; rw [rout, hs0.out, lS.out]; exact hst.out
          go_wp2
          go_roundw
          case rel => exact ⟨col + 1, st, by omega, by go_num, rfl, rfl, hnx, hk0, by omega, hE, hB, ho⟩
          case measure => simp [intOf]; omega
    · obtain rfl : col = n := by omega
      have hfs : Hid (fillS t b S col tr T = s0) := by show _ = _; rw [← rout_fold]; exact hs0.out
      go_wp2
      go_ret
      rw [hfs.out]
      exact ⟨rfl, ho, hE⟩
/-- What RouteChannel answers: tracks, or none and a code. -/
def Rc (t b : List Int) (w : World) (e : Ending) (w' : World) : Prop :=
  (chOk t b = false ∧ e = .returned (.tuple #[.slice none 0 0, .int .i64 1]) ∧ Ext w w') ∨
  (chOk t b = true ∧ rcR t b = none ∧ e = .returned (.tuple #[.slice none 0 0, .int .i64 6]) ∧ Ext w w') ∨
  (∃ R q c, chOk t b = true ∧ rcR t b = some R ∧ e = .returned (.tuple #[.slice q R.length c, .int .i64 0]) ∧ w'.ownsRow w.heap.size 2 1 (.slice q R.length c) R.length (R.flatMap enc1) ∧ Ext w w')
set_option maxRecDepth 100000 in
set_option maxHeartbeats 4000000 in
theorem specRouteChannel_any (p1 p2 : Option Addr) (n m c1 c2 : Nat) (t b : List Int) (w : World) (h : IsCh w p1 p2 n m c1 c2 t b) :
    Calls Try.prog 8 #[.agg #[.slice p1 n c1, .slice p2 m c2]] w (Rc t b w) := by
  obtain ⟨i0, hi, hz0, hz1, hz2⟩ := info_parts info_Int64
  have l1 := hid h.top.length
  have l2 := hid h.bot.length
  cases hok : chOk t b with
  | false =>
    go_enter Try.func8, Try.ntmps8
    go_wp2_with fail
    generalize hW : w.alloc _ = W0
    obtain ⟨E0, z0, b0⟩ := boxes1 hW
    clear hW z0 b0
    refine (l32Channel_any _ _ _ _ _ _ t b _ (h.ext E0)).mono ?_
    rw [hok]
    rintro e w1 ⟨rfl, E1⟩
    go_wp2_with fail
    go_ret2
    exact Or.inl ⟨hok, rfl, E0.trans E1⟩
  | true =>
    have hl := chOk_len hok
    have hnm : n = m := by have := l1.out; have := l2.out; omega
    subst hnm
    have hn16 : n ≤ 16 := by have := l1.out; omega
    clear hl
    have hokh := hid hok
    go_enter Try.func8, Try.ntmps8
    go_wp2_with fail
    generalize hW : w.alloc _ = W0
    obtain ⟨E0, z0, b0⟩ := boxes1 hW
    clear hW z0
    refine (l32Channel_any _ _ _ _ _ _ t b _ (h.ext E0)).mono ?_
    rw [hok]
    clear hok
    rintro e w1 ⟨rfl, E1⟩
    have gb := hid (show Blk W0 _ [_, _] _ from b0)
    clear b0
    have g1 := (gb.out.ext E1).cells
    go_wp2_with fail
    refine (l32Spans_any _ _ n _ _ t b _ (h.top.ext (E0.trans E1)) (h.bot.ext (E0.trans E1)) hn16).mono ?_
    rintro e w2 ⟨q, c, rfl, ho, E2⟩
    have hs := SlT.of_owns (l := spansL t b) enc3_len rfl ho
    have hlen : (spansL t b).length ≤ 12 := spansK_len _ _ _ _
    clear ho g1
    have E12 := E1.trans E2
    have hB2 := hid (gb.out.ext E12)
    have hX2 := hid (E0.trans E12)
    have hRun : Hid (∃ f : Nat, ((spansL t b).length : Int) ≤ f ∧ chanRun t b (spansL t b) n f 1 (List.replicate (spansL t b).length 0) (spansL t b).length = rcR t b) := ⟨(spansL t b).length, Int.le_refl _, by rw [rcR, l1.out]⟩
    generalize spansL t b = S at hs hlen hRun ⊢
    obtain ⟨N, hNS⟩ : ∃ N, N = S.length := ⟨_, rfl⟩
    rw [← hNS] at hs hlen hRun ⊢
    replace hNS := hid hNS
    go_wp2_with (refine wpList_make_full _ rfl _ _ 22 rfl w2.heap.size 2 i0 _ 1 Try.underlying22 hi hz0 hz1 .i64 .i64 N N N rfl rfl rfl rfl (by rw [hz2]; omega) (by unfold maxLen; omega) (Nat.le_refl _) ?_; intro w3 ho hg)
    rw [made_const _ (.int .i64 0) _ (by simp [Value.cells]) (by intro j hj; simp [Value.cells] at hj ⊢; subst hj; rfl)] at ho
    have hE3 : Ext w2 w3 := (Ext.refl _).grown hg (fun _ h => by cases h)
    have e0 : List.replicate (N * 1) (Value.int .i64 0) = ints (List.replicate N 0) := by rw [ints, List.map_replicate, Nat.mul_one]
    rw [e0] at ho
    clear hg e0
    obtain ⟨f0, hf0, hR0⟩ := hRun.out
    go_loopw [6, 7, 8] (fun lv tv _ wr => ∃ (f : Nat) (left tr : Int) (T : List Int), lv = .int .i64 left ∧ tv = .int .i64 tr ∧ left ≤ N ∧ 1 ≤ tr ∧ tr + left ≤ (N : Int) + 1 ∧ left ≤ f ∧ Hid (chanRun t b S n f tr T left = rcR t b) ∧ Ext w2 wr ∧ wr.ownsRow w2.heap.size 2 1 (.slice (some ⟨w2.heap.size, 0, none⟩) N N) N (ints T)) (fun lv _ _ _ => (intOf lv).toNat)
    case atStart => exact ⟨f0, N, 1, List.replicate N 0, rfl, rfl, by omega, by omega, by omega, hf0, hR0, hE3, ho⟩
    case round =>
      clear ho hE3 hR0 hf0
      obtain ⟨f, left, tr, T, rfl, rfl, hleft, htr, htl, hf, hR, hE, ho⟩ := hrel
      by_cases hgo : 0 < left
      · obtain ⟨f', rfl, hstep⟩ := chanRun_go (t := t) (b := b) (S := S) (n := n) (tr := tr) (T := T) hgo hf
        have hst := hid hstep
        clear hstep
        have hTl : T.length = N := by have := ho.1; simpa [ints] using this
        have gk := (hB2.out.ext hE).cells
        have gl := (hB2.out.ext hE).lt
        have hX := hX2.out
        have hcall := hid (l32Fill_any p1 p2 q n c1 c2 N c w2.heap.size N t b S T tr w2 wr hE (h.top.ext hX) (h.bot.ext hX) hs ho hn16 hlen)
        obtain ⟨hc0, hcN⟩ := fill_bd (t := t) (b := b) (S := S) (n := n) htr (by rw [hTl, hNS.out])
        rw [← hNS.out] at hcN
        generalize fillS t b S n tr T = st at hc0 hcN hst hcall
        by_cases hz : st.c = 0
        · have e1 : (st.c == 0) = true := by simp [hz]
          have hno : Hid (rcR t b = none) := by show _ = _; rw [← hR.out, hst.out, if_pos hz]
          replace hz := hid hz
          go_wp2_with (go_at_call 33; refine hcall.out.mono ?_; rintro e w7 ⟨rfl, ho7, h7⟩)
          go_ret2
          exact Or.inr (Or.inl ⟨hokh.out, hno.out, rfl, hX2.out.trans h7⟩)
        · have e1 : (st.c == 0) = false := by simp [hz]
          have hnx : Hid (chanRun t b S n f' (tr + 1) st.T (left - st.c) = rcR t b) := by show _ = _; rw [← hR.out, hst.out, if_neg hz]
          have hc1 : 1 ≤ st.c := by omega
          replace hz := hid hz
          have hb1 : left ≤ 12 := by omega
          have hb2 : st.c ≤ 12 := by omega
          have hb3 : tr ≤ 13 := by omega
          go_wp2_with (go_at_call 33; refine hcall.out.mono ?_; rintro e w7 ⟨rfl, ho7, h7⟩)
          go_roundw
          case rel => exact ⟨f', left - st.c, tr + 1, st.T, by go_num, by go_num, by omega, by omega, by omega, by omega, hnx, h7, ho7⟩
          case measure => simp [intOf]; omega
      · have hfin : Hid (rcR t b = some T) := by show _ = _; rw [← hR.out, chanRun_end (by omega)]
        have hTl : T.length = N := by have := ho.1; simpa [ints] using this
        go_wp2
        go_ret2
        refine Or.inr (Or.inr ⟨T, some ⟨w2.heap.size, 0, none⟩, N, hokh.out, hfin.out, (by rw [hTl]; rfl), ?_, hX2.out.trans hE⟩)
        rw [hTl, ints_flat]
        exact Joins.ownsRow_le ho hX2.out.le
end Go.Proofs.Ytiljojpnbpdaeaa
