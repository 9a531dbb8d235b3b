/- Contract of RouteChannel (program). Condition: at most 2^20 columns. -/
import Derived.Test.YtiljojpnbpdaeaaRcp
import Derived.Laws.EntriesVeiled
namespace Go.Proofs.Ytiljojpnbpdaeaa
open Go.RowKit

set_option maxRecDepth 100000 in
set_option maxHeartbeats 8000000 in
theorem RouteChannel_any (p1 p2 : Option Addr) (n m c1 c2 : Nat) (t b : List Int) (w : World) (h : IsCh w p1 p2 n m c1 c2 t b) :
    Calls Try.prog 10 #[.agg #[.slice p1 n c1, .slice p2 m c2]] w (Rc t b w) := by
  obtain ⟨i0, hi, hz0, hz1, hz2⟩ := info_parts info_Int64
  obtain ⟨j0, hji, hy0, hy1, hy2⟩ := info_parts info_int
  have l1 := hid h.top.length
  have l2 := hid h.bot.length
  cases hok : chOk t b with
  | false =>
    go_enter Try.func10, Try.ntmps10
    go_wp2_with fail
    generalize hW : w.alloc _ = W0
    obtain ⟨E0, z0, b0⟩ := boxes1 hW
    clear hW z0 b0
    refine (validChannel_any _ _ _ _ _ _ t b _ (h.ext E0)).mono ?_
    rw [hok]
    rintro e w1 ⟨rfl, E1⟩
    go_wp2_with fail
    go_ret2
    exact Or.inl ⟨hok, rfl, E0.trans E1⟩
  | true =>
    have hl := chOk_len hok
    have hnm : n = m := by have := l1.out; have := l2.out; omega
    subst hnm
    have hn16 : n ≤ 16 := by have := l1.out; omega
    clear hl
    have hokh := hid hok
    go_enter Try.func10, Try.ntmps10
    go_wp2_with fail
    generalize hW : w.alloc _ = W0
    obtain ⟨E0, z0, b0⟩ := boxes1 hW
    clear hW z0
    refine (validChannel_any _ _ _ _ _ _ t b _ (h.ext E0)).mono ?_
    rw [hok]
    clear hok
    rintro e w1 ⟨rfl, E1⟩
    have gb := hid (show Blk W0 w.heap.size [_, _] _ from b0)
    clear b0
    have g1 := (gb.out.ext E1).cells
    go_wp2_with fail
    refine (spans_any _ _ n _ _ t b _ (h.top.ext (E0.trans E1)) (h.bot.ext (E0.trans E1)) hn16).mono ?_
    rintro e w2 ⟨q, c, rfl, ho, E2⟩
    have hs := hid (SlT.of_owns (l := spansL t b) enc3_len rfl ho)
    have hlen : (spansL t b).length ≤ 12 := spansK_len _ _ _ _
    clear ho g1
    have E12 := E1.trans E2
    have hB2 := hid (gb.out.ext E12)
    have hX2 := hid (E0.trans E12)
    have hRun : Hid (∃ f : Nat, ((spansL t b).length : Int) ≤ f ∧ chanRun t b (spansL t b) n f 1 (List.replicate (spansL t b).length 0) (spansL t b).length = rcR t b) := ⟨(spansL t b).length, Int.le_refl _, by rw [rcR, l1.out]⟩
    have hOrd : Hid (ordL (spansL t b) = (bk (spansL t b) (spansL t b).length n).map Int.ofNat) := by show _ = _; rw [ordL_eq, l1.out]
    obtain ⟨S, hSd⟩ : ∃ S, S = spansL t b := ⟨_, rfl⟩
    rw [← hSd] at hs hlen hRun hOrd ⊢
    obtain ⟨N, hNS⟩ : ∃ N, N = S.length := ⟨_, rfl⟩
    rw [← hNS] at hs hlen hRun hOrd ⊢
    replace hNS := hid hNS
    replace hSd := hid hSd
    clear E0 E1 E2 E12 gb
    go_upto_region 4 with (fail)
    generalize hV : World.alloc _ _ = w3
    obtain ⟨E3, z3, hbl⟩ := boxes1 hV
    clear hV
    replace hbl := hid (show Blk w3 w2.heap.size [_] _ from hbl)
    replace z3 := hid z3
    go_upto_region 5 with (fail)
    generalize hV : World.alloc _ _ = w4
    obtain ⟨E4, z4, hbp⟩ := boxes1 hV
    clear hV
    replace hbp := hid (show Blk w4 w3.heap.size [_] _ from hbp)
    have hbc := hid (hB2.out.ext (E3.trans E4))
    have hX4 := hid (hX2.out.trans (E3.trans E4))
    replace hs := hid (hs.out.ext (E3.trans E4))
    replace hbl := hid (hbl.out.ext E4)
    replace z4 := hid z4
    obtain ⟨bl, hble⟩ : ∃ bl, bl = w2.heap.size := ⟨_, rfl⟩
    rw [← hble] at hbl hbp ⊢
    replace hble := hid hble
    obtain ⟨bp, hbpe⟩ : ∃ bp, bp = w3.heap.size := ⟨_, rfl⟩
    rw [← hbpe] at hbp ⊢
    replace hbpe := hid hbpe
    clear E3 E4 hB2 hX2
    have ho0 : (w4.alloc (.cells #[] 3)).ownsRow w4.heap.size 3 1 (.slice (some ⟨w4.heap.size, 0, none⟩) 0 0) 0 [] := by
      exact World.ownsRow_made (base := w4.heap.size) (e := 3) (size := 1) w4 #[] 0 (by simp) (by simp [maxLen]) (by simp)
    have gl := (hbl.out.alloc (.cells #[] 3)).cells
    have ll := (hbl.out.alloc (.cells #[] 3)).lt
    have hNI : (N : Int) ≤ 12 := by omega
    go_wp2
    clear gl ll
    go_loopw [6, 7, 25] (fun v _ i wr => ∃ k : Nat, k ≤ N ∧ i = .int .i64 k ∧ Ext w4 wr ∧ v ≠ .slice none 0 0 ∧ wr.ownsRow w4.heap.size 3 1 v k (ints (upto k))) (fun _ _ i _ => N - (intOf i).toNat)
    case atStart => exact ⟨0, by omega, rfl, (Ext.refl _).alloc _, by simp, ho0⟩
    case round =>
      clear ho0
      obtain ⟨k, hk, rfl, hE, hv, ho⟩ := hrel
      by_cases hkn : k < N
      · have hr := hid (upto_snoc k)
        go_wp2_with (at_builtin; refine wpList_append_own _ rfl _ _ 82 rfl w4.heap.size 3 j0 _ 1 8 Try.underlying82 hji hy0 hy1 hy2 rfl (by omega) _ _ _ rfl (ho.alloc _) ⟨wr.heap.size, 0, none⟩ 1 1 [.int .i64 (k : Int)] rfl rfl ?c1 ?c2 ?c3 ?c4 ?c5 ?_; rotate_left 5; intro v' w1 ho' hg hnil)
        case c1 => exact cells_new _ _ _
        case c2 => intro u hu; simp at hu; subst hu; rfl
        case c3 => unfold maxLen; omega
        case c4 => omega
        case c5 => have := hE.le; simp; omega
        go_roundw
        case rel =>
          refine ⟨k + 1, by omega, by go_num, (hE.alloc _).grown hg (fun k hk => (ho.lt k hk).1), fun hh => ?_, ?_⟩
          · have := (hnil.1 hh).2; omega
          · rw [hr.out, ints, List.map_append]; exact ho'
        case measure => simp [intOf]; omega
      · obtain rfl : k = N := by omega
        have hr : Hid (isort (ltOf (cfL S)) (upto k) = (bk S k n).map Int.ofNat) := by show _ = _; rw [← hOrd.out, ordL, hNS.out]
        have hbl2 : Hid ((bk S k n).length = k) := by
          show _ = _
          have := congrArg List.length hr.out
          rw [isort_len, upto_len, List.length_map] at this
          exact this.symm
        obtain ⟨g, c', rfl⟩ := owns_some2 ho hv
        clear hv
        have hgl := owns_lt ho
        have hp : Hid (Cmp 41 #[.pointer (some ⟨bl, 0, none⟩)] (cfL S) (upto k) wr g) := by
          intro W x y hx hy m
          obtain ⟨i, rfl, hi⟩ := upto_mem hx
          obtain ⟨j, rfl, hj⟩ := upto_mem hy
          have hEW : Ext w4 W := hE.then m (by intro k hk; simp at hk; omega)
          exact cmpLeft_any q k c S bl W (hs.out.ext hEW) (hbl.out.ext hEW) i j hi hj
        go_upto_region 12 with (go_at_call 40; refine (sortStable_any g k c' (upto k) 41 _ (cfL S) (enters_of Try.func41 (by kernel_rfl) rfl) w4.heap.size _ ho (by omega) hp).mono ?_; rintro e w5 ⟨rfl, ho5, M5⟩)
        rw [hr.out] at ho5
        have hE5 : Ext w4 w5 := hE.then M5 (by intro k hk; simp at hk; omega)
        have hX5 := hid (hX4.out.trans hE5)
        have hs5 := hid (hs.out.ext hE5)
        have hbl5 := hid (hbl.out.ext hE5)
        have hbp5 := hid (hbp.out.ext hE5)
        have hbc5 := hid (hbc.out.ext hE5)
        replace ho5 := hid ho5
        clear hE M5 hp hgl ho hE5
        have gl := hbl5.out.cells
        have ll := hbl5.out.lt
        go_upto_region 13 with (refine wpList_make_full _ rfl _ _ 22 rfl w5.heap.size 2 i0 _ 1 Try.underlying22 hi hz0 hz1 .i64 .i64 k k k rfl rfl rfl rfl (by rw [hz2]; omega) (by unfold maxLen; omega) (Nat.le_refl _) ?_; intro w6 ho6 hg6)
        clear gl ll
        rw [made_const _ (.int .i64 0) _ (by simp [Value.cells]) (by intro j hj; simp [Value.cells] at hj ⊢; subst hj; rfl)] at ho6
        have hE6 : Ext w5 w6 := (Ext.refl _).grown hg6 (fun _ h => by cases h)
        have e0 : List.replicate (k * 1) (Value.int .i64 0) = ints (List.replicate k 0) := by rw [ints, List.map_replicate, Nat.mul_one]
        rw [e0] at ho6
        clear e0 hg6
        have hg6 := (owns_lt ho6).2
        generalize hV : World.alloc _ _ = w7
        obtain ⟨E7, z7, hbt⟩ := boxes1 hV
        clear hV
        have hbt : Blk w7 w6.heap.size [.slice (some ⟨w5.heap.size, 0, none⟩) k k] 22 := hbt
        replace ho6 := owns_ext ho6 E7
        replace hE6 := hE6.trans E7
        clear E7
        have hbtl : Hid (w5.heap.size < w6.heap.size) := hg6
        obtain ⟨bt, hbte⟩ : ∃ bt, bt = w6.heap.size := ⟨_, rfl⟩
        rw [← hbte] at hbt hbtl ⊢
        obtain ⟨gT, hgTe⟩ : ∃ gT, gT = w5.heap.size := ⟨_, rfl⟩
        have hgTb : w5.heap.size ≤ gT := by omega
        have hbtb : w5.heap.size ≤ bt := by have := hbtl.out; omega
        rw [← hgTe] at hbt hbtl ⊢
        have ho6 : w7.ownsRow w5.heap.size 2 1 (.slice (some ⟨gT, 0, none⟩) k k) k (ints (List.replicate k 0)) := by rw [hgTe]; exact ho6
        replace hgTe := hid hgTe
        replace hbte := hid hbte
        replace hg6 := hid hg6
        replace z7 := hid z7
        go_upto_region 14 with (fail)
        obtain ⟨G3, hG3⟩ : ∃ G, G = 43 := ⟨_, rfl⟩
        have eg : ∀ args w, (callFunc G3 args).run Try.prog w = .ok (.enter G3 args) w := by rw [hG3]; exact enters_of Try.func43 (by kernel_rfl) rfl
        have hfv : Value.func (Fn.func 43) #[] #[.pointer (some ⟨w.heap.size, 0, none⟩), .pointer (some ⟨bl, 0, none⟩), .pointer (some ⟨bt, 0, none⟩), .pointer (some ⟨bp, 0, none⟩)] = Value.func (Fn.func G3) #[] #[.pointer (some ⟨w.heap.size, 0, none⟩), .pointer (some ⟨bl, 0, none⟩), .pointer (some ⟨bt, 0, none⟩), .pointer (some ⟨bp, 0, none⟩)] := by rw [hG3]
        rw [hfv]
        clear hfv
        replace hG3 := hid hG3
        have gl := (hbl5.out.ext hE6).cells
        have ll := (hbl5.out.ext hE6).lt
        refine wp_region_later (by kernel_rfl) (by kernel_rfl) ?_
        repeat (go_big_quiet_step (fail))
        refine wpQuiet_nil ?_
        rintro w8 ⟨⟨_, h8⟩, rfl⟩
        replace hE6 := hE6.trans h8
        replace ho6 := owns_ext ho6 h8
        replace hbt := hbt.ext h8
        clear gl ll h8
        obtain ⟨f0, hf0, hR0⟩ := hRun.out
        have hkk := hid (show S.length = k from hNS.out.symm)
        go_wp2_with fail
        go_loopw [10, 11, 12, 13, 15] (fun tv lv _ _ _ wr => ∃ (f : Nat) (left tr : Int) (T : List Int), lv = .int .i64 left ∧ tv = .int .i64 tr ∧ left ≤ k ∧ 1 ≤ tr ∧ tr + left ≤ (k : Int) + 1 ∧ left ≤ f ∧ Hid (chanRun t b S n f tr T left = rcR t b) ∧ Ext w5 wr ∧ Blk wr bt [.slice (some ⟨gT, 0, none⟩) k k] 22 ∧ wr.ownsRow w5.heap.size 2 1 (.slice (some ⟨gT, 0, none⟩) k k) k (ints T)) (fun _ lv _ _ _ _ => (intOf lv).toNat)
        case atStart => exact ⟨f0, k, 1, List.replicate k 0, rfl, rfl, by omega, by omega, by omega, hf0, hR0, hE6, hbt, ho6⟩
        case round =>
          clear ho6 hE6 hbt hR0 hf0
          obtain ⟨f, left, tr, T, rfl, rfl, hleft, htr, htl, hf, hR, hE, hB, ho⟩ := hrel
          by_cases hgo : 0 < left
          · obtain ⟨f', rfl, hstep⟩ := chanRun_go (t := t) (b := b) (S := S) (n := n) (tr := tr) (T := T) hgo hf
            have hst := hid hstep
            clear hstep
            have hTl : T.length = k := by have := ho.1; simpa [ints] using this
            go_wp2
            go_loopw [11, 12, 15, 49] (fun lv rv _ jv wr => ∃ (j : Nat) (s0 : FS), j ≤ k ∧ jv = .int .i64 j ∧ lv = .int .i64 (left - s0.c) ∧ rv = .int .i64 s0.r ∧ Hid (((bk S k n).take j).foldl (fstep t b S tr) ⟨T, -1, 0⟩ = s0) ∧ 0 ≤ s0.c ∧ s0.c ≤ j ∧ Ext w5 wr ∧ Blk wr bt [.slice (some ⟨gT, 0, none⟩) k k] 22 ∧ wr.ownsRow w5.heap.size 2 1 (.slice (some ⟨gT, 0, none⟩) k k) k (ints s0.T)) (fun _ _ _ jv _ => k - (intOf jv).toNat)
            case atStart => exact ⟨0, ⟨T, -1, 0⟩, by omega, rfl, by simp, rfl, rfl, by simp, by simp, hE, hB, ho⟩
            case round =>
              clear ho hB hE
              obtain ⟨j, s0, hj, rfl, rfl, rfl, hs0, hc0, hc1, hE, hB, ho⟩ := hrel
              by_cases hjk : j < k
              · have hjkI : (j : Int) < k := by omega
                obtain ⟨i, hbi⟩ : ∃ i, (bk S k n)[j]? = some i := ⟨_, List.getElem?_eq_getElem (by rw [hbl2.out]; exact hjk)⟩
                have hik := (bk_mem (List.mem_of_getElem? hbi)).2
                have hikI : (i : Int) < k := by omega
                have hsn : Hid (((bk S k n).take (j + 1)).foldl (fstep t b S tr) ⟨T, -1, 0⟩ = fstep t b S tr s0 i) := by
                  show _ = _
                  rw [take_snoc hbi, List.foldl_append, hs0.out]; rfl
                have co := (owns_ext ho5.out hE).cellAt j (by omega)
                rw [ints_at (by rw [List.getElem?_map, hbi]; rfl)] at co
                replace hbi := hid hbi
                have cof := (owns_lt (owns_ext ho5.out hE)).2
                have hoT := owns_ints ho
                have hE' := hX5.out.trans hE
                obtain ⟨B1, o1, s, rfl, hb0, hs', _, s1', s2'⟩ := hs5.out.three hik
                have s1 := (hE.cells _ _ hb0).trans s1'
                have s2 := (hE.cells _ _ hb0).trans s2'
                have hb1 : B1 < wr.heap.size := Nat.lt_of_lt_of_le hb0 hE.le
                clear s1' s2'
                obtain ⟨_, _, y, hpp, hb2, hy, y0⟩ := hoT.int hik
                cases hpp
                rw [Nat.zero_add] at y0
                have gl := (hbl5.out.ext hE).cells
                have ll := (hbl5.out.ext hE).lt
                have gt := hB.cells
                have lt := hB.lt
                have hsb := hid (Sb_of hs'.out)
                have hyt := hid (Tn_of hy.out)
                have left1 : left ≤ 12 := by omega
                have hc12 : s0.c ≤ 12 := by omega
                by_cases hy0 : y = 0
                · have e2 : (y == 0) = true := by simp [hy0]
                  replace hy0 := hid hy0
                  by_cases hrb : s0.r < s.b
                  · have hcall : Calls Try.prog G3 #[.int .i64 i, .int .i64 tr, .pointer (some ⟨w.heap.size, 0, none⟩), .pointer (some ⟨bl, 0, none⟩), .pointer (some ⟨bt, 0, none⟩), .pointer (some ⟨bp, 0, none⟩)] wr fun e w' => e = .returned (.bool (freeB t b S s0.T i tr)) ∧ Ext wr w' := by
                      rw [hG3.out, hSd.out]
                      exact free_any p1 p2 (some ⟨B1, o1, none⟩) n c1 c2 k c gT k w.heap.size bl bt bp t b s0.T i tr wr hokh.out (h.top.ext hE') (h.bot.ext hE') (by rw [← hSd.out]; exact hs5.out.ext hE) hoT (hbc5.out.ext hE) (hbl5.out.ext hE) hB (hbp5.out.ext hE) hik hlen hn16
                    cases hfr : freeB t b S s0.T i tr with
                    | true =>
                      rw [hfr] at hcall
                      have hnx : Hid (((bk S k n).take (j + 1)).foldl (fstep t b S tr) ⟨T, -1, 0⟩ = ⟨s0.T.set i tr, s.c, s0.c + 1⟩) := by
                        show _ = _
                        rw [hsn.out, fstep_hit (by rw [hyt.out]; exact hy0.out) (by rw [hsb.out]; exact hrb) hfr, hsb.out]
                      clear hfr
                      replace hcall := hid hcall
                      have hgb : ¬ (gT = B1) := fun e => by omega
                      have hgb' : ¬ (B1 = gT) := fun e => by omega
                      have hbb : ¬ (bl = gT) := fun e => by have := hbl5.out.lt; omega
                      have hbb' : ¬ (gT = bl) := fun e => by have := hbl5.out.lt; omega
                      have hbt1 : ¬ (bt = gT) := fun e => by have := hbtl.out; omega
                      have hbt2 : ¬ (gT = bt) := fun e => by have := hbtl.out; omega
                      go_wp2_with (go_at_fn G3; refine hcall.out.mono ?_; rintro e w9 ⟨rfl, h9⟩)
                      have ho9 := owns_ext ho h9
                      have hB9 := hB.ext h9
                      have hE9 := hE.trans h9
                      have gt9 := hB9.cells
                      have lt9 := hB9.lt
                      have gl9 := (hbl5.out.ext hE9).cells
                      have ll9 := (hbl5.out.ext hE9).lt
                      have hf9 := owns_free ho9
                      have hgl9 := (owns_lt ho9).2
                      have s29 := (h9.cells _ _ hb1).trans s2
                      have y09 := (h9.cells _ _ hb2).trans y0
                      clear gl ll gt lt s1 s2 y0 co
                      go_region
                      go_wp2
                      go_roundw
                      case rel =>
                        refine ⟨j + 1, ⟨s0.T.set i tr, s.c, s0.c + 1⟩, by omega, by go_num, by go_num, rfl, hnx, by simp only; omega, by simp only; omega, Ext.drew (hE9.setCell (p := ⟨gT, i, none⟩) hgTb _), hB9.other (B := gT) i _ hbt1, ?_⟩
                        have := owns_set ho9 i (.int .i64 tr)
                        rw [ints_set] at this
                        exact this
                      case measure => simp [intOf]; omega
                    | false =>
                      rw [hfr] at hcall
                      have hnx : Hid (((bk S k n).take (j + 1)).foldl (fstep t b S tr) ⟨T, -1, 0⟩ = s0) := by
                        show _ = _
                        rw [hsn.out, fstep_off (Or.inr (Or.inr hfr))]
                      clear hfr
                      replace hcall := hid hcall
                      go_wp2_with (go_at_fn G3; refine hcall.out.mono ?_; rintro e w9 ⟨rfl, h9⟩)
                      go_roundw
                      case rel => exact ⟨j + 1, s0, by omega, by go_num, rfl, rfl, hnx, hc0, by omega, hE.trans h9, hB.ext h9, owns_ext ho h9⟩
                      case measure => simp [intOf]; omega
                  · have hnx : Hid (((bk S k n).take (j + 1)).foldl (fstep t b S tr) ⟨T, -1, 0⟩ = s0) := by
                      show _ = _
                      rw [hsn.out, fstep_off (Or.inr (Or.inl (by rw [hsb.out]; exact hrb)))]
                    go_wp2
                    go_roundw
                    case rel => exact ⟨j + 1, s0, by omega, by go_num, rfl, rfl, hnx, hc0, by omega, hE, hB, ho⟩
                    case measure => simp [intOf]; omega
                · have e2 : (y == 0) = false := by simp [hy0]
                  have hnx : Hid (((bk S k n).take (j + 1)).foldl (fstep t b S tr) ⟨T, -1, 0⟩ = s0) := by
                    show _ = _
                    rw [hsn.out, fstep_off (Or.inl (by rw [hyt.out]; exact hy0))]
                  replace hy0 := hid hy0
                  go_wp2
                  go_roundw
                  case rel => exact ⟨j + 1, s0, by omega, by go_num, rfl, rfl, hnx, hc0, by omega, hE, hB, ho⟩
                  case measure => simp [intOf]; omega
              · obtain rfl : j = k := by omega
                have hfs : Hid (fillS t b S n tr T = s0) := by
                  show _ = _
                  rw [fillS, hkk.out, ← hs0.out, take_all hbl2.out (Nat.le_refl _)]
                by_cases hz : s0.c = 0
                · have e1 : ((left - s0.c) == left) = true := by simp [hz]
                  have hno : Hid (rcR t b = none) := by show _ = _; rw [← hR.out, hst.out, if_pos (by rw [hfs.out]; exact hz)]
                  replace hz := hid hz
                  go_wp2
                  go_ret2
                  exact Or.inr (Or.inl ⟨hokh.out, hno.out, rfl, hX5.out.trans hE⟩)
                · have e1 : ((left - s0.c) == left) = false := by simp; omega
                  have hnx : Hid (chanRun t b S n f' (tr + 1) s0.T (left - s0.c) = rcR t b) := by show _ = _; rw [← hR.out, hst.out, if_neg (by rw [hfs.out]; exact hz), hfs.out]
                  have hz1 : 1 ≤ s0.c := by omega
                  have htr13 : tr ≤ 13 := by omega
                  replace hz := hid hz
                  go_wp2
                  go_roundw
                  case rel => exact ⟨f', left - s0.c, tr + 1, s0.T, by go_num, by go_num, by omega, by omega, by omega, by omega, hnx, hE, hB, ho⟩
                  case measure => simp [intOf]; omega
          · have hfin : Hid (rcR t b = some T) := by show _ = _; rw [← hR.out, chanRun_end (by omega)]
            have hTl : T.length = k := by have := ho.1; simpa [ints] using this
            have gt := hB.cells
            have lt := hB.lt
            go_wp2
            go_ret2
            refine Or.inr (Or.inr ⟨T, some ⟨gT, 0, none⟩, k, hokh.out, hfin.out, (by rw [hTl]; rfl), ?_, hX5.out.trans hE⟩)
            rw [hTl, ints_flat]
            exact Joins.ownsRow_le ho hX5.out.le
end Go.Proofs.Ytiljojpnbpdaeaa
